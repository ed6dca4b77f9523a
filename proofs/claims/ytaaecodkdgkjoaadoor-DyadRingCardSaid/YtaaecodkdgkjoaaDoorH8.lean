/- Part of a claim: dyads make a ring, as far as nothing is refused: in plain Lean. -/
import Derived.Test.YtaaecodkdgkjoaaDoorH7
set_option linter.unusedSimpArgs false
set_option linter.unusedVariables false
namespace Go.Proofs.YtaaecodkdgkjoaaDoor.B
open Go Go.RowKit Go.Proofs.YtaaecodkdgkjoaaDoor.E Go.Proofs.YtaaecodkdgkjoaaDoor.FL

/-! ### Values: everything over 2^250 -/

/-- A dyad's parts, with the exponent 250. -/
def vA (p : Dy) : Int := p.a * 2 ^ (250 - p.e.toNat)
def vB (p : Dy) : Int := p.b * 2 ^ (250 - p.e.toNat)

theorem tmod_half {a : Int} (h : a.tmod 2 = 0) : a = a.tdiv 2 * 2 := by
  have := Int.mul_tdiv_add_tmod a 2
  omega

theorem halve_val : ∀ (n : Nat) (a b : Int), n ≤ 250 → (halve n a b).1 * 2 ^ (250 - (halve n a b).2.2) = a * 2 ^ (250 - n) ∧ (halve n a b).2.1 * 2 ^ (250 - (halve n a b).2.2) = b * 2 ^ (250 - n)
  | 0, _, _, _ => ⟨rfl, rfl⟩
  | n + 1, a, b, h => by
    rw [halve]
    split
    · rename_i hh
      obtain ⟨h1, h2⟩ := halve_val n (a.tdiv 2) (b.tdiv 2) (by omega)
      rw [h1, h2]
      have e : 250 - n = (250 - (n + 1)) + 1 := by omega
      have ea := tmod_half hh.1
      have eb := tmod_half hh.2
      constructor
      · rw [e, Int.pow_succ, Int.mul_comm (2 ^ _) 2, ← Int.mul_assoc, ← ea]
      · rw [e, Int.pow_succ, Int.mul_comm (2 ^ _) 2, ← Int.mul_assoc, ← eb]
    · exact ⟨rfl, rfl⟩

theorem toldF_val {n : Nat} {a b : Int} {p : Dy} (hn : n ≤ 250) (h : toldF n a b = (p, 0)) : p.rt ∧ vA p = a * 2 ^ (250 - n) ∧ vB p = b * 2 ^ (250 - n) := by
  unfold toldF at h
  split at h
  · rename_i ho
    cases h
    have := halve_val n a b hn
    refine ⟨okD_Rt.1 ho, ?_, ?_⟩
    · unfold vA; simp only [Int.toNat_natCast]; exact this.1
    · unfold vB; simp only [Int.toNat_natCast]; exact this.2
  · cases h

theorem toldF_err (n : Nat) (a b : Int) : (toldF n a b).2 = 0 ∨ (toldF n a b).2 = 50 := by
  unfold toldF
  split
  · exact .inl rfl
  · exact .inr rfl

theorem lift_val : ∀ {n : Nat} {x y : Int}, lift n x = some y → y = x * 2 ^ n
  | 0, x, y, h => by simp only [lift, Option.some.injEq] at h; subst h; simp
  | n + 1, x, y, h => by
    simp only [lift] at h
    split at h
    · rw [lift_val h, Int.pow_succ, Int.mul_assoc, Int.mul_comm 2 (2 ^ n)]
    · cases h

theorem scale {x : Int} {n m : Nat} (h : n + m ≤ 250) : x * 2 ^ n * 2 ^ (250 - (n + m)) = x * 2 ^ (250 - m) := by
  rw [Int.mul_assoc, ← Int.pow_add, show n + (250 - (n + m)) = 250 - m by omega]

theorem addF_val {p q r : Dy} {s : Int} (h : addF p q s = (r, 0)) : p.rt ∧ q.rt ∧ r.rt ∧ vA r = vA p + s * vA q ∧ vB r = vB p + s * vB q := by
  unfold addF at h
  split at h
  · rename_i hr
    obtain ⟨_, _, p0, p60⟩ := rt_in hr.1
    obtain ⟨_, _, q0, q60⟩ := rt_in hr.2
    split at h
    · rename_i x y z w h1 h2 h3 h4
      obtain ⟨a1, a2, a3⟩ := toldF_val (by omega) h
      refine ⟨hr.1, hr.2, a1, ?_, ?_⟩
      · rw [a2, lift_val h1, lift_val h3, Int.add_mul, ← Int.mul_assoc]
        unfold vA
        rw [show (max p.e q.e).toNat = (max p.e q.e - p.e).toNat + p.e.toNat by omega, scale (by omega)]
        rw [show (max p.e q.e - p.e).toNat + p.e.toNat = (max p.e q.e - q.e).toNat + q.e.toNat by omega, scale (by omega), Int.mul_assoc]
      · rw [a3, lift_val h2, lift_val h4, Int.add_mul, ← Int.mul_assoc]
        unfold vB
        rw [show (max p.e q.e).toNat = (max p.e q.e - p.e).toNat + p.e.toNat by omega, scale (by omega)]
        rw [show (max p.e q.e - p.e).toNat + p.e.toNat = (max p.e q.e - q.e).toNat + q.e.toNat by omega, scale (by omega), Int.mul_assoc]
    · cases h
  · cases h

abbrev U : Int := 2 ^ 250

theorem scale2 {x y : Int} {n m : Nat} (h : n + m ≤ 250) : x * y * 2 ^ (250 - (n + m)) * U = x * 2 ^ (250 - n) * (y * 2 ^ (250 - m)) := by
  rw [show x * 2 ^ (250 - n) * (y * 2 ^ (250 - m)) = x * y * (2 ^ (250 - n) * 2 ^ (250 - m)) by rw [Int.mul_assoc, Int.mul_assoc, Int.mul_left_comm (2 ^ (250 - n)) y]]
  rw [Int.mul_assoc, ← Int.pow_add, ← Int.pow_add]
  congr 2; omega

theorem mulF_val {p q r : Dy} (h : mulF p q = (r, 0)) : p.rt ∧ q.rt ∧ r.rt ∧ vA r * U = vA p * vA q - vB p * vB q ∧ vB r * U = vA p * vB q + vB p * vA q := by
  unfold mulF at h
  split at h
  · rename_i hr
    obtain ⟨_, _, p0, p60⟩ := rt_in hr.1
    obtain ⟨_, _, q0, q60⟩ := rt_in hr.2
    split at h
    · obtain ⟨a1, a2, a3⟩ := toldF_val (by omega) h
      have e : (p.e + q.e).toNat = p.e.toNat + q.e.toNat := by omega
      refine ⟨hr.1, hr.2, a1, ?_, ?_⟩
      · rw [a2, e, Int.sub_mul, Int.sub_mul, scale2 (by omega), scale2 (by omega)]; rfl
      · rw [a3, e, Int.add_mul, Int.add_mul, scale2 (by omega), scale2 (by omega)]; rfl
    · cases h
  · cases h

theorem even_mul (x : Int) (k : Nat) : (x * 2 ^ (k + 1)).tmod 2 = 0 := by
  rw [Int.pow_succ, ← Int.mul_assoc]
  exact Int.mul_tmod_left _ _

/-- One value has one right form. -/
theorem uniq_le {p q : Dy} (hp : p.rt) (hq : q.rt) (ha : vA p = vA q) (hb : vB p = vB q) (hle : p.e ≤ q.e) : p = q := by
  obtain ⟨_, _, p0, p60⟩ := rt_in hp
  obtain ⟨_, _, q0, q60⟩ := rt_in hq
  unfold vA at ha
  unfold vB at hb
  have hpos : (2 : Int) ^ (250 - q.e.toNat) ≠ 0 := by
    have : (0 : Int) < 2 ^ (250 - q.e.toNat) := Int.pow_pos (by omega)
    omega
  have e : 250 - p.e.toNat = (q.e.toNat - p.e.toNat) + (250 - q.e.toNat) := by omega
  rw [e, Int.pow_add, ← Int.mul_assoc] at ha hb
  have ha' := Int.eq_of_mul_eq_mul_right hpos ha
  have hb' := Int.eq_of_mul_eq_mul_right hpos hb
  obtain ⟨pa, pb, pe⟩ := p
  obtain ⟨qa, qb, qe⟩ := q
  simp only at *
  rcases Int.lt_or_eq_of_le hle with h | h
  · exfalso
    obtain ⟨k, hk⟩ : ∃ k, qe.toNat - pe.toNat = k + 1 := ⟨qe.toNat - pe.toNat - 1, by omega⟩
    rw [hk] at ha' hb'
    have h1 := even_mul pa k
    have h2 := even_mul pb k
    rw [ha'] at h1
    rw [hb'] at h2
    rcases hq.2.2.2.2 with h3 | h3 | h3
    · simp only at h3; omega
    · exact h3 h1
    · exact h3 h2
  · subst h
    rw [Nat.sub_self, Int.pow_zero, Int.mul_one] at ha' hb'
    rw [ha', hb']

theorem uniq {p q : Dy} (hp : p.rt) (hq : q.rt) (ha : vA p = vA q) (hb : vB p = vB q) : p = q := by
  rcases Int.le_total p.e q.e with h | h
  · exact uniq_le hp hq ha hb h
  · exact (uniq_le hq hp ha.symm hb.symm h).symm

theorem U_cancel {x y : Int} (h : x * U = y * U) : x = y := Int.eq_of_mul_eq_mul_right (by decide) h

/-! ### The ring -/

theorem addF_comm (p q : Dy) : addF p q 1 = addF q p 1 := by
  unfold addF
  by_cases h : p.rt ∧ q.rt
  · rw [if_pos h, if_pos (show q.rt ∧ p.rt from ⟨h.2, h.1⟩), Int.max_comm q.e p.e]
    cases lift (max p.e q.e - p.e).toNat p.a <;> cases lift (max p.e q.e - p.e).toNat p.b <;> cases lift (max p.e q.e - q.e).toNat q.a <;> cases lift (max p.e q.e - q.e).toNat q.b <;> try rfl
    rename_i x y z w
    show toldF _ (x + 1 * z) (y + 1 * w) = toldF _ (z + 1 * x) (w + 1 * y)
    rw [Int.one_mul, Int.one_mul, Int.one_mul, Int.one_mul, Int.add_comm x z, Int.add_comm y w]
  · rw [if_neg h, if_neg fun hh => h ⟨hh.2, hh.1⟩]

theorem mulF_comm (p q : Dy) : mulF p q = mulF q p := by
  unfold mulF
  by_cases h : p.rt ∧ q.rt
  · rw [if_pos h, if_pos (show q.rt ∧ p.rt from ⟨h.2, h.1⟩)]
    have c : ∀ x y, Pr x y ↔ Pr y x := fun x y => by unfold Pr; rw [Int.mul_comm]
    have e : (Pr p.a q.a ∧ Pr p.b q.b ∧ Pr p.a q.b ∧ Pr p.b q.a) ↔ (Pr q.a p.a ∧ Pr q.b p.b ∧ Pr q.a p.b ∧ Pr q.b p.a) := by
      rw [c p.a q.a, c p.b q.b, c p.a q.b, c p.b q.a]
      constructor <;> (rintro ⟨a, b, c, d⟩; exact ⟨a, b, d, c⟩)
    by_cases h2 : Pr p.a q.a ∧ Pr p.b q.b ∧ Pr p.a q.b ∧ Pr p.b q.a
    · rw [if_pos h2, if_pos (e.1 h2), Int.add_comm q.e, Int.mul_comm q.a p.a, Int.mul_comm q.b p.b, Int.add_comm (q.a * p.b), Int.mul_comm q.b p.a, Int.mul_comm q.a p.b]
    · rw [if_neg h2, if_neg fun hh => h2 (e.2 hh)]
  · rw [if_neg h, if_neg fun hh => h ⟨hh.2, hh.1⟩]

/-- Products are spread over sums. -/
theorem spread {a b c p x y z w : Dy} (h1 : addF a b 1 = (p, 0)) (h2 : mulF p c = (x, 0)) (h3 : mulF a c = (y, 0)) (h4 : mulF b c = (z, 0)) (h5 : addF y z 1 = (w, 0)) : x = w := by
  obtain ⟨_, _, _, a1, a2⟩ := addF_val h1
  obtain ⟨_, _, b0, b1, b2⟩ := mulF_val h2
  obtain ⟨_, _, _, c1, c2⟩ := mulF_val h3
  obtain ⟨_, _, _, d1, d2⟩ := mulF_val h4
  obtain ⟨_, _, e0, e1, e2⟩ := addF_val h5
  refine uniq b0 e0 (U_cancel ?_) (U_cancel ?_)
  · rw [b1, e1, Int.add_mul, Int.mul_assoc 1, c1, d1, a1, a2]
    simp only [Int.one_mul, Int.add_mul]
    omega
  · rw [b2, e2, Int.add_mul, Int.mul_assoc 1, c2, d2, a1, a2]
    simp only [Int.one_mul, Int.add_mul]
    omega

theorem mul4 (a b c d : Int) : a * b * (c * d) = a * c * (b * d) := by
  rw [Int.mul_assoc, Int.mul_left_comm b, ← Int.mul_assoc]

theorem squareF_val {p r : Dy} (h : squareF p = (r, 0)) : r.rt ∧ vA r * U = vA p * vA p + vB p * vB p ∧ vB r = 0 := by
  unfold squareF at h
  split at h
  · obtain ⟨_, _, a1, a2, a3⟩ := mulF_val h
    have e1 : vA ⟨p.a, -p.b, p.e⟩ = vA p := rfl
    have e2 : vB ⟨p.a, -p.b, p.e⟩ = -vB p := by unfold vB; simp only [Int.neg_mul]
    rw [e1, e2] at a2 a3
    refine ⟨a1, ?_, U_cancel ?_⟩
    · rw [a2, Int.mul_neg]; omega
    · rw [a3, Int.mul_neg, Int.mul_comm (vB p)]; omega
  · cases h

/-- The square of a product is the product of the squares. -/
theorem squares {a b r i j k l : Dy} (h1 : mulF a b = (r, 0)) (h2 : squareF a = (i, 0)) (h3 : squareF b = (j, 0)) (h4 : squareF r = (k, 0)) (h5 : mulF i j = (l, 0)) : k = l := by
  obtain ⟨_, _, _, a1, a2⟩ := mulF_val h1
  obtain ⟨_, b1, b2⟩ := squareF_val h2
  obtain ⟨_, c1, c2⟩ := squareF_val h3
  obtain ⟨d0, d1, d2⟩ := squareF_val h4
  obtain ⟨_, _, e0, e1, e2⟩ := mulF_val h5
  refine uniq d0 e0 (U_cancel (U_cancel (U_cancel ?_))) (U_cancel ?_)
  · have f1 : vA k * U * U * U = (vA r * U) * (vA r * U) + (vB r * U) * (vB r * U) := by
      rw [d1, Int.add_mul, Int.add_mul]
      congr 1
      · rw [Int.mul_assoc (vA r * vA r), mul4]
      · rw [Int.mul_assoc (vB r * vB r), mul4]
    have f2 : vA l * U * U * U = (vA i * U) * (vA j * U) := by
      rw [e1, b2, Int.zero_mul, Int.sub_zero, Int.mul_assoc (vA i * vA j), mul4]
    rw [f1, f2, a1, a2, b1, c1]
    generalize vA a = A
    generalize vB a = A'
    generalize vA b = Q
    generalize vB b = Q'
    have p1 : (A * Q - A' * Q') * (A * Q - A' * Q') = A * Q * (A * Q) - 2 * (A * Q * (A' * Q')) + A' * Q' * (A' * Q') := by
      rw [Int.sub_mul, Int.mul_sub, Int.mul_sub, Int.mul_comm (A' * Q') (A * Q)]; omega
    have p2 : (A * Q' + A' * Q) * (A * Q' + A' * Q) = A * Q' * (A * Q') + 2 * (A * Q' * (A' * Q)) + A' * Q * (A' * Q) := by
      rw [Int.add_mul, Int.mul_add, Int.mul_add, Int.mul_comm (A' * Q) (A * Q')]; omega
    have p3 : A * Q' * (A' * Q) = A * Q * (A' * Q') := by
      rw [mul4, mul4 A Q, Int.mul_comm Q' Q]
    have p4 : (A * A + A' * A') * (Q * Q + Q' * Q') = A * Q * (A * Q) + A * Q' * (A * Q') + (A' * Q * (A' * Q) + A' * Q' * (A' * Q')) := by
      rw [Int.add_mul, Int.mul_add, Int.mul_add, mul4 A A Q Q, mul4 A A, mul4 A' A', mul4 A' A']
    rw [p1, p2, p3, p4]
    omega
  · rw [d2, e2, b2, c2]; simp

end Go.Proofs.YtaaecodkdgkjoaaDoor.B
