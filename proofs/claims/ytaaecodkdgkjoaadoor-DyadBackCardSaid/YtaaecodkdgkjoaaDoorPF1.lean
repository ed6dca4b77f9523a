/- Part of a claim: exact sums and products of floats. Nothing of a program stands here. -/
import Derived.Test.YtaaecodkdgkjoaaDoorPFN
set_option linter.unusedSimpArgs false
set_option linter.unusedVariables false
namespace Go.Proofs.YtaaecodkdgkjoaaDoor.FL
open Go Ieee

/-- A number of 53 bits, scaled, is a float, exactly. -/
theorem rung_V {m : Nat} {i : Int} (hm : m ≤ 9007199254740992) (h1 : -1000 ≤ i) (h2 : i ≤ 900) : rung m i < 9218868437227405312 ∧ V (rung m i) = m * 2 ^ (i + 1074).toNat := by
  by_cases h0 : m = 0
  · subst h0
    have : rung 0 i = 0 := by unfold rung; rw [if_pos rfl]
    rw [this, V_zero, Nat.zero_mul]
    exact ⟨by omega, rfl⟩
  obtain ⟨k1, k2⟩ := kept_exact h0 hm
  have k3 := kept_bounds h0
  have hmv := rung_move h0 hm i
  have hlog := log2_small (k := 54) h0 (by rw [show 2 ^ 54 = 18014398509481984 by decide]; omega)
  obtain ⟨e, he⟩ : ∃ e : Nat, e = (i + m.log2 - 52 + 1074).toNat := ⟨_, rfl⟩
  obtain ⟨g1, g2⟩ := mag_up (e := e) (k := kept m) k3.1 k1
  have hr : e * 4503599627370496 + kept m < 9218868437227405312 := by omega
  have hx := rung_exact hr
  rw [g1, g2, show -1074 + (e : Int) = i + m.log2 - 52 by omega, hmv] at hx
  rw [hx]
  refine ⟨hr, ?_⟩
  rw [V_mag, g1, g2]
  have hp := Nat.two_pow_pos 52
  apply Nat.eq_of_mul_eq_mul_right hp
  rw [Nat.mul_assoc, ← Nat.pow_add, show e + 52 = m.log2 + (i + 1074).toNat by omega, Nat.pow_add, ← Nat.mul_assoc, k2, show 2 ^ 52 = 4503599627370496 by decide]
  rw [Nat.mul_right_comm]

theorem signed_add (s t : Bool) (m n a b c : Nat) : signed s m (a + c) + signed t n (b + c) = (signed s m a + signed t n b) * 2 ^ c := by
  rw [signed_shift, signed_shift, Int.add_mul]

/-- A sum of floats: what is rounded, in units of 2^-1074. -/
theorem add_words {s t : Bool} {r q : Nat} (hr : r < 9218868437227405312) (hq : q < 9218868437227405312) :
    ∃ g : Bool, D.add (D.word s r) (D.word t q) = some (D.word g (rung (sval s r + sval t q).natAbs (-1074))) ∧ (sval s r + sval t q ≠ 0 → g = decide (sval s r + sval t q < 0)) := by
  unfold Format.add
  rw [read_word hr, read_word hq]
  simp only [Datum.sum, Option.map_some, Format.write]
  obtain ⟨c, hc⟩ : ∃ c : Nat, c = min (upOf r) (upOf q) := ⟨_, rfl⟩
  obtain ⟨a, ha⟩ : ∃ a, a = upOf r - c := ⟨_, rfl⟩
  obtain ⟨b, hb⟩ : ∃ b, b = upOf q - c := ⟨_, rfl⟩
  have e1 : min (-1074 + (upOf r : Int)) (-1074 + (upOf q : Int)) = -1074 + c := by omega
  have hs : sval s r + sval t q = (signed s (magOf r) a + signed t (magOf q) b) * 2 ^ c := by
    rw [← signed_sval, ← signed_sval, ← signed_add, show a + c = upOf r by omega, show b + c = upOf q by omega]
  rw [e1, show (-1074 + (upOf r : Int) - (-1074 + (c : Int))).toNat = a by omega, show (-1074 + (upOf q : Int) - (-1074 + (c : Int))).toNat = b by omega, hs]
  obtain ⟨S, hS⟩ : ∃ S, S = signed s (magOf r) a + signed t (magOf q) b := ⟨_, rfl⟩
  rw [← hS, nearest_rung]
  have hP : (0 : Int) < 2 ^ c := Int.pow_pos (by decide)
  have hn : (S * 2 ^ c).natAbs = S.natAbs * 2 ^ c := by
    rw [Int.natAbs_mul, Int.natAbs_pow]; rfl
  rw [hn, rung_scale]
  refine ⟨_, rfl, fun h0 => ?_⟩
  have hS0 : S ≠ 0 := by rintro h; rw [h, Int.zero_mul] at h0; exact h0 rfl
  rw [if_neg hS0]
  refine decide_eq_decide.2 ⟨fun h => ?_, fun h => ?_⟩
  · exact Int.mul_neg_of_neg_of_pos h hP
  · refine Int.not_le.1 fun hc => ?_
    have := Int.mul_nonneg hc (Int.le_of_lt hP)
    omega

theorem sub_words {s t : Bool} {r q : Nat} (hr : r < 9218868437227405312) (hq : q < 9218868437227405312) : D.sub (D.word s r) (D.word t q) = D.add (D.word s r) (D.word (!t) q) := by
  unfold Format.sub Format.add
  rw [read_word hr, read_word hq, read_word hq]
  rfl

theorem mul_words {s t : Bool} {r q : Nat} (hr : r < 9218868437227405312) (hq : q < 9218868437227405312) :
    D.mul (D.word s r) (D.word t q) = some (D.word (s ^^ t) (rung (magOf r * magOf q) (-1074 + upOf r + (-1074 + upOf q)))) := by
  unfold Format.mul
  rw [read_word hr, read_word hq]
  simp only [Datum.product, Option.map_some, Format.write]
  rw [nearest_rung]

/-- A word that stands for a whole number of units of 2^-1074. -/
def Is (w : Nat) (S : Int) : Prop := ∃ (s : Bool) (r : Nat), w = D.word s r ∧ r < 9218868437227405312 ∧ sval s r = S

/-- Numbers that are floats. -/
def Fits (S : Int) : Prop := ∃ (z : Int) (k : Nat), S = z * 2 ^ k ∧ z.natAbs ≤ 9007199254740992 ∧ 74 ≤ k ∧ k ≤ 1900

theorem Fits.rung {S : Int} (h : Fits S) : rung S.natAbs (-1074) < 9218868437227405312 ∧ (V (FL.rung S.natAbs (-1074)) : Int) = S.natAbs := by
  obtain ⟨z, k, rfl, hz, h1, h2⟩ := h
  have e : (z * 2 ^ k).natAbs = z.natAbs * 2 ^ k := by rw [Int.natAbs_mul, Int.natAbs_pow]; rfl
  rw [e, rung_scale]
  have := rung_V (m := z.natAbs) (i := -1074 + (k : Int)) hz (by omega) (by omega)
  rw [show (-1074 + (k : Int) + 1074).toNat = k by omega] at this
  exact ⟨this.1, by rw [this.2]⟩

theorem Fits.is {S : Int} (h : Fits S) {g : Bool} (hg : S ≠ 0 → g = decide (S < 0)) : Is (D.word g (FL.rung S.natAbs (-1074))) S := by
  obtain ⟨h1, h2⟩ := h.rung
  refine ⟨g, _, rfl, h1, ?_⟩
  unfold sval
  by_cases h0 : S = 0
  · subst h0
    rw [h2]; split <;> rfl
  · rw [hg h0]
    by_cases c : S < 0
    · rw [if_pos (decide_eq_true c), h2]; omega
    · rw [if_neg (by rw [decide_eq_true_eq]; exact c), h2]; omega

theorem Is.add {a b : Nat} {S Q : Int} (ha : Is a S) (hb : Is b Q) (h : Fits (S + Q)) : ∃ w, D.add a b = some w ∧ Is w (S + Q) := by
  obtain ⟨s, r, rfl, hr, rfl⟩ := ha
  obtain ⟨t, q, rfl, hq, rfl⟩ := hb
  obtain ⟨g, h1, h2⟩ := add_words hr hq (s := s) (t := t)
  exact ⟨_, h1, h.is h2⟩

theorem Is.sub {a b : Nat} {S Q : Int} (ha : Is a S) (hb : Is b Q) (h : Fits (S - Q)) : ∃ w, D.sub a b = some w ∧ Is w (S - Q) := by
  obtain ⟨s, r, rfl, hr, rfl⟩ := ha
  obtain ⟨t, q, rfl, hq, rfl⟩ := hb
  have hn : sval (!t) q = -sval t q := by cases t <;> simp [sval]
  obtain ⟨g, h1, h2⟩ := add_words hr hq (s := s) (t := !t)
  rw [hn, ← Int.sub_eq_add_neg] at h1 h2
  rw [sub_words hr hq]
  exact ⟨_, h1, h.is h2⟩

/-- One, in units of 2^-1074. -/
def uN : Nat := 1074

/-- A product: S and Q in units of 2^-1074, the product P too. -/
theorem Is.mul {a b : Nat} {S Q P : Int} (ha : Is a S) (hb : Is b Q) (hP : S * Q = P * 2 ^ uN) (h : Fits P) : ∃ w, D.mul a b = some w ∧ Is w P := by
  obtain ⟨s, r, rfl, hr, rfl⟩ := ha
  obtain ⟨t, q, rfl, hq, rfl⟩ := hb
  refine ⟨_, mul_words hr hq, ?_⟩
  have ha1 : (sval s r).natAbs = V r := by unfold sval; split <;> omega
  have hb1 : (sval t q).natAbs = V q := by unfold sval; split <;> omega
  have e1 : V r * V q = P.natAbs * 2 ^ uN := by
    have := congrArg Int.natAbs hP
    rw [Int.natAbs_mul, Int.natAbs_mul, Int.natAbs_pow, ha1, hb1, show (2 : Int).natAbs = 2 from rfl] at this
    exact this
  have e2 : FL.rung (magOf r * magOf q) (-1074 + upOf r + (-1074 + upOf q)) = FL.rung P.natAbs (-1074) := by
    have h1 := rung_scale (magOf r * magOf q) (upOf r + upOf q) (-2148)
    have h2 : magOf r * magOf q * 2 ^ (upOf r + upOf q) = V r * V q := by
      rw [V_mag, V_mag, Nat.pow_add, Nat.mul_mul_mul_comm]
    rw [h2, e1, rung_scale] at h1
    rw [show -1074 + (upOf r : Int) + (-1074 + (upOf q : Int)) = -2148 + ((upOf r + upOf q : Nat) : Int) by omega, ← h1]
    rfl
  rw [e2]
  refine h.is fun h0 => ?_
  have hp : (0 : Int) < 2 ^ uN := Int.pow_pos (by decide)
  have hne : sval s r * sval t q ≠ 0 := by
    rw [hP]; exact Int.mul_ne_zero h0 (by omega)
  have hr0 : sval s r ≠ 0 := fun h => hne (by rw [h, Int.zero_mul])
  have hq0 : sval t q ≠ 0 := fun h => hne (by rw [h, Int.mul_zero])
  have hvr : 0 < V r := by rw [← ha1]; omega
  have hvq : 0 < V q := by rw [← hb1]; omega
  have hvv : (0 : Int) < (V r : Int) * (V q : Int) := Int.mul_pos (by omega) (by omega)
  have hsgn : (P < 0) ↔ sval s r * sval t q < 0 := by
    rw [hP]
    constructor
    · intro h; exact Int.mul_neg_of_neg_of_pos h hp
    · intro h
      refine Int.not_le.1 fun hc => ?_
      have := Int.mul_nonneg hc (Int.le_of_lt hp)
      omega
  have hdd : decide (P < 0) = decide (sval s r * sval t q < 0) := decide_eq_decide.2 hsgn
  rw [hdd]
  cases s <;> cases t <;> simp only [sval, if_true, Bool.false_eq_true, if_false, Bool.xor_false, Bool.false_xor, Bool.xor_self, Bool.true_xor, Bool.not_false, Bool.not_true]
  · exact (decide_eq_false (by omega)).symm
  · exact (decide_eq_true (by rw [Int.mul_neg]; omega)).symm
  · exact (decide_eq_true (by rw [Int.neg_mul]; omega)).symm
  · exact (decide_eq_false (by rw [Int.neg_mul_neg]; omega)).symm

/-- Two words that stand for the same are equal floats. -/
theorem Is.eq {a b : Nat} {S : Int} (ha : Is a S) (hb : Is b S) : D.order a b = some .eq := by
  obtain ⟨s, r, rfl, hr, hs⟩ := ha
  obtain ⟨t, q, rfl, hq, hq2⟩ := hb
  rw [order_word (by omega) (by omega), hs, hq2, compare_eq]

end Go.Proofs.YtaaecodkdgkjoaaDoor.FL
