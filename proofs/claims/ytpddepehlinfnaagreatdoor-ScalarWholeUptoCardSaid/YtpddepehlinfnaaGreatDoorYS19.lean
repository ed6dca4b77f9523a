/- Part of a claim: numbers added to a row of words; the sum that is rounded once, in plain numbers. Nothing of a program stands here. -/
import Derived.Test.YtpddepehlinfnaaGreatDoorYS18
set_option linter.unusedSimpArgs false
set_option linter.unusedVariables false
namespace Go.Proofs.YtpddepehlinfnaaGreatDoor.FL

/-- Plus or minus. -/
def sg (s : Bool) (k : Nat) : Int := if s = true then -(k : Int) else k

theorem sg_zero (s : Bool) : sg s 0 = 0 := by cases s <;> rfl
theorem sg_add (s : Bool) (a b : Nat) : sg s (a + b) = sg s a + sg s b := by unfold sg; cases s <;> simp <;> omega
theorem sg_mul (s : Bool) (a b : Nat) : sg s (a * b) = sg s a * (b : Int) := by
  unfold sg; cases s
  · simp
  · simp [Int.neg_mul]
theorem sg_mul' (s : Bool) (a b : Nat) : sg s (a * b) = (a : Int) * sg s b := by rw [Nat.mul_comm, sg_mul, Int.mul_comm]
theorem sg_le (s : Bool) {a b : Nat} (h : a ≤ b) : -(b : Int) ≤ sg s a ∧ sg s a ≤ b := by unfold sg; cases s <;> simp <;> omega

theorem put3_eq (w : List Int) (i : Nat) (a b c : Int) : put3 w i a b c = ((w.set i (w.getD i 0 + a)).set (i + 1) (w.getD (i + 1) 0 + b)).set (i + 2) (w.getD (i + 2) 0 + c) := by
  unfold put3
  have h1 : (w.set i (w.getD i 0 + a)).getD (i + 1) 0 = w.getD (i + 1) 0 := by
    rw [List.getD_eq_getElem?_getD, List.getElem?_set_ne (by omega), ← List.getD_eq_getElem?_getD]
  rw [h1]
  have h2 : ((w.set i (w.getD i 0 + a)).set (i + 1) (w.getD (i + 1) 0 + b)).getD (i + 2) 0 = w.getD (i + 2) 0 := by
    rw [List.getD_eq_getElem?_getD, List.getElem?_set_ne (by omega), List.getElem?_set_ne (by omega), ← List.getD_eq_getElem?_getD]
  rw [h2]

theorem getD_bound {w : List Int} {b : Int} (h : ∀ x ∈ w, -b ≤ x ∧ x ≤ b) (hb : 0 ≤ b) (i : Nat) : -b ≤ w.getD i 0 ∧ w.getD i 0 ≤ b := by
  by_cases hi : i < w.length
  · exact h _ (List.mem_of_getElem? (getD_some hi))
  · rw [List.getD_eq_getElem?_getD, List.getElem?_eq_none (by omega)]; simp; omega

/-- m * 2^at added. -/
def addW (w : List Int) (i : Nat) (s : Bool) (m : Nat) : List Int :=
  put3 w (i / 32) (sg s (m * 2 ^ (i % 32) % 4294967296)) (sg s (m * 2 ^ (i % 32) / 4294967296 % 4294967296)) (sg s (m * 2 ^ (i % 32) / 18446744073709551616))

theorem addW_length (w : List Int) (i : Nat) (s : Bool) (m : Nat) : (addW w i s m).length = w.length := put3_length _ _ _ _ _

theorem lim_addW (w : List Int) (i : Nat) (s : Bool) (m : Nat) (h : i / 32 + 2 < w.length) : lim (addW w i s m) = lim w + sg s (m * 2 ^ i) := by
  unfold addW
  rw [lim_put3 _ _ _ _ _ h]
  congr 1
  generalize hz : m * 2 ^ (i % 32) = z
  have hp : m * 2 ^ i = 2 ^ (32 * (i / 32)) * z := by
    rw [← hz, Nat.mul_left_comm, ← Nat.pow_add, Nat.div_add_mod]
  have e : z = z % 4294967296 + 4294967296 * (z / 4294967296 % 4294967296) + 18446744073709551616 * (z / 18446744073709551616) := by omega
  have e2 : sg s z = sg s (z % 4294967296) + 4294967296 * sg s (z / 4294967296 % 4294967296) + 18446744073709551616 * sg s (z / 18446744073709551616) := by
    conv => lhs; rw [e]
    rw [sg_add, sg_add, sg_mul', sg_mul']; rfl
  rw [hp, sg_mul', ← e2, ← pow32, Int.natCast_pow]; rfl

theorem addW_bound {w : List Int} {i : Nat} {s : Bool} {m : Nat} {b : Int} (hb : 0 ≤ b) (h : ∀ x ∈ w, -b ≤ x ∧ x ≤ b) (hm : m < 9007199254740992) : ∀ x ∈ addW w i s m, -(b + 4294967296) ≤ x ∧ x ≤ b + 4294967296 := by
  have hs : 2 ^ (i % 32) ≤ 2147483648 := by
    rw [show 2147483648 = 2 ^ 31 by decide]; exact Nat.pow_le_pow_right (by omega) (by have := Nat.mod_lt i (show 0 < 32 by omega); omega)
  have hz : m * 2 ^ (i % 32) ≤ 9007199254740992 * 2147483648 := Nat.mul_le_mul (by omega) hs
  unfold addW
  rw [put3_eq]
  generalize m * 2 ^ (i % 32) = z at *
  have b1 := sg_le s (show z % 4294967296 ≤ 4294967296 by omega)
  have b2 := sg_le s (show z / 4294967296 % 4294967296 ≤ 4294967296 by omega)
  have b3 := sg_le s (show z / 18446744073709551616 ≤ 4294967296 by omega)
  have g1 := getD_bound h hb (i / 32)
  have g2 := getD_bound h hb (i / 32 + 1)
  have g3 := getD_bound h hb (i / 32 + 2)
  intro x hx
  rcases List.mem_or_eq_of_mem_set hx with hx | rfl
  · rcases List.mem_or_eq_of_mem_set hx with hx | rfl
    · rcases List.mem_or_eq_of_mem_set hx with hx | rfl
      · have := h x hx; omega
      · omega
    · omega
  · omega

/-- The last word of a carried row. -/
theorem last_word {w : List Int} {n : Nat} (hl : w.length = n + 1) (hd : ∀ k x, k < n → w[k]? = some x → 0 ≤ x ∧ x < 4294967296) :
    (0 ≤ lim w → lim w < 4294967296 ^ (n + 1) → Dig w) ∧ (lim w < 0 ↔ w.getD n 0 < 0) := by
  have e : w = w.take n ++ [w.getD n 0] := by
    conv => lhs; rw [← List.take_append_drop n w]
    congr 1
    rw [List.drop_eq_getElem_cons (by omega), List.drop_eq_nil_of_le (by omega), List.getD_eq_getElem?_getD, List.getElem?_eq_getElem (by omega)]; rfl
  have hD : ∀ x ∈ w.take n, 0 ≤ x ∧ x < 4294967296 := fun x hx => by
    obtain ⟨k, hk⟩ := List.mem_iff_getElem?.1 hx
    rw [List.getElem?_take] at hk
    split at hk
    · exact hd k x (by omega) hk
    · cases hk
  have hb := lim_lt _ hD
  rw [List.length_take, show min n w.length = n by omega] at hb
  have hv : lim w = lim (w.take n) + 4294967296 ^ n * w.getD n 0 := by
    conv => lhs; rw [e]
    rw [lim_append, List.length_take, show min n w.length = n by omega]
    simp [lim]
  generalize hx : w.getD n 0 = x at *
  generalize hy : lim (w.take n) = y at *
  have hP : (0 : Int) < 4294967296 ^ n := Int.pow_pos (by decide)
  have hP2 : (4294967296 : Int) ^ (n + 1) = 4294967296 ^ n * 4294967296 := Int.pow_succ _ _
  rw [hP2]
  generalize (4294967296 : Int) ^ n = P at *
  have up : ∀ z : Int, z ≤ x → P * z ≤ P * x := fun z h => Int.mul_le_mul_of_nonneg_left h (by omega)
  have dn : ∀ z : Int, x ≤ z → P * x ≤ P * z := fun z h => Int.mul_le_mul_of_nonneg_left h (by omega)
  refine ⟨fun h0 h1 z hz => ?_, ?_⟩
  · rw [e] at hz
    rcases List.mem_append.1 hz with hz | hz
    · exact hD z hz
    · rw [List.mem_singleton] at hz
      subst hz
      constructor
      · refine Int.not_lt.1 fun hc => ?_
        have := dn (-1) (by omega)
        omega
      · refine Int.not_le.1 fun hc => ?_
        have := up 4294967296 hc
        omega
  · constructor
    · intro h
      refine Int.not_le.1 fun hc => ?_
      have := up 0 hc
      omega
    · intro h
      have := dn (-1) (by omega)
      omega

/-- Words of a float: the value in units of 2^-1074; nought of one that is not finite. -/
def svW (n : Nat) : Int := if n % 9223372036854775808 < 9218868437227405312 then sval (decide (9223372036854775808 ≤ n)) (n % 9223372036854775808) else 0
def tot : List Nat → Int
  | [] => 0
  | n :: l => svW n + tot l
theorem tot_append : ∀ (a b : List Nat), tot (a ++ b) = tot a + tot b
  | [], b => by simp [tot]
  | x :: a, b => by rw [List.cons_append, tot, tot_append a b, tot]; omega

/-- Every finite float lies below 2^qx, in units of 2^-1074. -/
def qx : Nat := 2098
def qe : Nat := 2045
theorem qx_eq : qx = 53 + qe := rfl

theorem V_lt_pow {r : Nat} (h : r < 9218868437227405312) : V r < 2 ^ qx := by
  rw [V_mag]
  have h1 : magOf r < 9007199254740992 := by unfold magOf; split <;> omega
  have h2 : upOf r ≤ qe := by unfold upOf qe; split <;> omega
  have h3 : 2 ^ upOf r ≤ 2 ^ qe := Nat.pow_le_pow_right (by omega) h2
  have hp := Nat.two_pow_pos qe
  calc magOf r * 2 ^ upOf r ≤ magOf r * 2 ^ qe := Nat.mul_le_mul_left _ h3
    _ < 9007199254740992 * 2 ^ qe := Nat.mul_lt_mul_of_pos_right h1 hp
    _ = 2 ^ qx := by rw [qx_eq, Nat.pow_add]

theorem sv_bound (n : Nat) : (svW n).natAbs < 2 ^ qx := by
  unfold svW
  split
  · rename_i h
    have := sval_abs (decide (9223372036854775808 ≤ n)) (n % 9223372036854775808)
    have := V_lt_pow h
    omega
  · exact Nat.two_pow_pos _

theorem tot_bound : ∀ (l : List Nat), (tot l).natAbs ≤ l.length * 2 ^ qx
  | [] => by simp [tot]
  | n :: l => by
    have h1 := sv_bound n
    have h2 := tot_bound l
    rw [tot, List.length_cons, Nat.add_mul, Nat.one_mul]
    omega

theorem tot_lt {l : List Nat} (h : l.length ≤ 1048576) : (tot l).natAbs < 2 ^ (20 + qx + 1) := by
  have := tot_bound l
  have h2 := Nat.mul_le_mul_right (2 ^ qx) h
  rw [show 1048576 = 2 ^ 20 by decide, ← Nat.pow_add] at h2
  refine Nat.lt_of_le_of_lt (Nat.le_trans this h2) (Nat.pow_lt_pow_right (by omega) (by omega))

def nanW (n : Nat) : Bool := decide (9218868437227405312 < n % 9223372036854775808)

/-- THE SUM THAT IS ROUNDED ONCE. -/
def wholeW (l : List Nat) : Nat :=
  if l.any nanW || (l.any (· == 9218868437227405312) && l.any (· == 18442240474082181120)) then 9221120237041090561
  else if l.any (· == 9218868437227405312) then 9218868437227405312
  else if l.any (· == 18442240474082181120) then 18442240474082181120
  else if !l.isEmpty && l.all (· == 9223372036854775808) then 9223372036854775808
  else D.word (decide (tot l < 0)) (rung (tot l).natAbs (-1074))

end Go.Proofs.YtpddepehlinfnaaGreatDoor.FL
