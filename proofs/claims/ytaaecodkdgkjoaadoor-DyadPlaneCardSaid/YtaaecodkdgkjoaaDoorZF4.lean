/- Part of a claim: floats reckon as dyads do: in plain Lean. -/
import Derived.Test.YtaaecodkdgkjoaaDoorZF3
set_option linter.unusedSimpArgs false
set_option linter.unusedVariables false
namespace Go.Proofs.YtaaecodkdgkjoaaDoor.B
open Go Go.RowKit Go.Proofs.YtaaecodkdgkjoaaDoor.E Go.Proofs.YtaaecodkdgkjoaaDoor.FL

theorem fits_dS {x e : Int} (hx : In53 x) (h0 : 0 ≤ e) (h1 : e ≤ 60) : Fits (dS x e) := by
  have hu : uN = 1074 := rfl
  unfold In53 at hx
  exact fits_of (by omega) (by omega) (by omega)

theorem sum_eq {p q r : Dy} (h : addF p q 1 = (r, 0)) : ∃ w1 w2, D.add (dF p.a p.e) (dF q.a q.e) = some w1 ∧ D.add (dF p.b p.e) (dF q.b q.e) = some w2 ∧ D.order (dF r.a r.e) w1 = some .eq ∧ D.order (dF r.b r.e) w2 = some .eq := by
  obtain ⟨hp, hq, hr, h1, h2⟩ := addF_val h
  obtain ⟨p1, p2, p3, p4⟩ := rt_in hp
  obtain ⟨q1, q2, q3, q4⟩ := rt_in hq
  obtain ⟨r1, r2, r3, r4⟩ := rt_in hr
  have ea : dS p.a p.e + dS q.a q.e = dS r.a r.e := by
    rw [(dS_val p hp).1, (dS_val q hq).1, (dS_val r hr).1, h1, ← Int.add_mul, Int.one_mul]
  have eb : dS p.b p.e + dS q.b q.e = dS r.b r.e := by
    rw [(dS_val p hp).2, (dS_val q hq).2, (dS_val r hr).2, h2, ← Int.add_mul, Int.one_mul]
  obtain ⟨w1, a1, a2⟩ := (is_dF p1 p3 p4).add (is_dF q1 q3 q4) (by rw [ea]; exact fits_dS r1 r3 r4)
  obtain ⟨w2, b1, b2⟩ := (is_dF p2 p3 p4).add (is_dF q2 q3 q4) (by rw [eb]; exact fits_dS r2 r3 r4)
  rw [ea] at a2
  rw [eb] at b2
  exact ⟨w1, w2, a1, b1, (is_dF r1 r3 r4).eq a2, (is_dF r2 r3 r4).eq b2⟩

theorem dif_eq {p q r : Dy} (h : addF p q (-1) = (r, 0)) : ∃ w1 w2, D.sub (dF p.a p.e) (dF q.a q.e) = some w1 ∧ D.sub (dF p.b p.e) (dF q.b q.e) = some w2 ∧ D.order (dF r.a r.e) w1 = some .eq ∧ D.order (dF r.b r.e) w2 = some .eq := by
  obtain ⟨hp, hq, hr, h1, h2⟩ := addF_val h
  obtain ⟨p1, p2, p3, p4⟩ := rt_in hp
  obtain ⟨q1, q2, q3, q4⟩ := rt_in hq
  obtain ⟨r1, r2, r3, r4⟩ := rt_in hr
  have ea : dS p.a p.e - dS q.a q.e = dS r.a r.e := by
    rw [(dS_val p hp).1, (dS_val q hq).1, (dS_val r hr).1, h1, ← Int.sub_mul]
    congr 1
    omega
  have eb : dS p.b p.e - dS q.b q.e = dS r.b r.e := by
    rw [(dS_val p hp).2, (dS_val q hq).2, (dS_val r hr).2, h2, ← Int.sub_mul]
    congr 1
    omega
  obtain ⟨w1, a1, a2⟩ := (is_dF p1 p3 p4).sub (is_dF q1 q3 q4) (by rw [ea]; exact fits_dS r1 r3 r4)
  obtain ⟨w2, b1, b2⟩ := (is_dF p2 p3 p4).sub (is_dF q2 q3 q4) (by rw [eb]; exact fits_dS r2 r3 r4)
  rw [ea] at a2
  rw [eb] at b2
  exact ⟨w1, w2, a1, b1, (is_dF r1 r3 r4).eq a2, (is_dF r2 r3 r4).eq b2⟩

def Lo (x : Int) : Prop := -67108864 ≤ x ∧ x ≤ 67108864

theorem lo_mul {x y : Int} (hx : Lo x) (hy : Lo y) : (x * y).natAbs ≤ 4503599627370496 := by
  unfold Lo at hx hy
  rw [Int.natAbs_mul]
  calc x.natAbs * y.natAbs ≤ 67108864 * 67108864 := Nat.mul_le_mul (by omega) (by omega)
    _ = 4503599627370496 := by decide

theorem prod_is {x y e f : Int} (hx : Lo x) (hy : Lo y) (e0 : 0 ≤ e) (e1 : e ≤ 60) (f0 : 0 ≤ f) (f1 : f ≤ 60) : ∃ w, D.mul (dF x e) (dF y f) = some w ∧ Is w (x * y * 2 ^ (uN - (e.toNat + f.toNat))) := by
  have hu : uN = 1074 := rfl
  have hm := lo_mul hx hy
  have hx' : In53 x := by unfold Lo at hx; unfold In53; omega
  have hy' : In53 y := by unfold Lo at hy; unfold In53; omega
  refine (is_dF hx' e0 e1).mul (is_dF hy' f0 f1) ?_ (fits_of (by omega) (by omega) (by omega))
  unfold dS
  have he : (uN - e.toNat) + (uN - f.toNat) = (uN - (e.toNat + f.toNat)) + uN := by omega
  rw [Int.mul_assoc (x * y), ← Int.pow_add, ← he, Int.pow_add]
  rw [Int.mul_assoc x, Int.mul_assoc x, Int.mul_left_comm (2 ^ (uN - e.toNat))]

theorem mul_eq {p q r : Dy} (h : mulF p q = (r, 0)) (hp' : Small p) (hq' : Small q) : ∃ m1 m2 m3 m4 w1 w2, D.mul (dF p.a p.e) (dF q.a q.e) = some m1 ∧ D.mul (dF p.b p.e) (dF q.b q.e) = some m2 ∧ D.mul (dF p.a p.e) (dF q.b q.e) = some m3 ∧ D.mul (dF p.b p.e) (dF q.a q.e) = some m4 ∧
    D.sub m1 m2 = some w1 ∧ D.add m3 m4 = some w2 ∧ D.order (dF r.a r.e) w1 = some .eq ∧ D.order (dF r.b r.e) w2 = some .eq := by
  have hu : uN = 1074 := rfl
  obtain ⟨hp, hq, hr, h1, h2⟩ := mulF_val h
  obtain ⟨p1, p2, p3, p4⟩ := rt_in hp
  obtain ⟨q1, q2, q3, q4⟩ := rt_in hq
  obtain ⟨r1, r2, r3, r4⟩ := rt_in hr
  obtain ⟨m1, a1, b1⟩ := prod_is (x := p.a) (y := q.a) hp'.1 hq'.1 p3 p4 q3 q4
  obtain ⟨m2, a2, b2⟩ := prod_is (x := p.b) (y := q.b) hp'.2 hq'.2 p3 p4 q3 q4
  obtain ⟨m3, a3, b3⟩ := prod_is (x := p.a) (y := q.b) hp'.1 hq'.2 p3 p4 q3 q4
  obtain ⟨m4, a4, b4⟩ := prod_is (x := p.b) (y := q.a) hp'.2 hq'.1 p3 p4 q3 q4
  have n1 := lo_mul (x := p.a) (y := q.a) hp'.1 hq'.1
  have n2 := lo_mul (x := p.b) (y := q.b) hp'.2 hq'.2
  have n3 := lo_mul (x := p.a) (y := q.b) hp'.1 hq'.2
  have n4 := lo_mul (x := p.b) (y := q.a) hp'.2 hq'.1
  have hs := fun x y : Int => scale2 (x := x) (y := y) (n := p.e.toNat) (m := q.e.toNat) (by omega)
  have va : vA r = (p.a * q.a - p.b * q.b) * 2 ^ (250 - (p.e.toNat + q.e.toNat)) := by
    refine U_cancel ?_
    rw [h1, Int.sub_mul, Int.sub_mul, hs, hs]; rfl
  have vb : vB r = (p.a * q.b + p.b * q.a) * 2 ^ (250 - (p.e.toNat + q.e.toNat)) := by
    refine U_cancel ?_
    rw [h2, Int.add_mul, Int.add_mul, hs, hs]; rfl
  have ex : 250 - (p.e.toNat + q.e.toNat) + (uN - 250) = uN - (p.e.toNat + q.e.toNat) := by omega
  have sc : ∀ z : Int, z * 2 ^ (250 - (p.e.toNat + q.e.toNat)) * 2 ^ (uN - 250) = z * 2 ^ (uN - (p.e.toNat + q.e.toNat)) := fun z => by rw [Int.mul_assoc, ← Int.pow_add, ex]
  have ea : p.a * q.a * 2 ^ (uN - (p.e.toNat + q.e.toNat)) - p.b * q.b * 2 ^ (uN - (p.e.toNat + q.e.toNat)) = dS r.a r.e := by
    rw [(dS_val r hr).1, va, sc, Int.sub_mul]
  have eb : p.a * q.b * 2 ^ (uN - (p.e.toNat + q.e.toNat)) + p.b * q.a * 2 ^ (uN - (p.e.toNat + q.e.toNat)) = dS r.b r.e := by
    rw [(dS_val r hr).2, vb, sc, Int.add_mul]
  obtain ⟨w1, c1, d1⟩ := b1.sub b2 (by rw [ea]; exact fits_dS r1 r3 r4)
  obtain ⟨w2, c2, d2⟩ := b3.add b4 (by rw [eb]; exact fits_dS r2 r3 r4)
  rw [ea] at d1
  rw [eb] at d2
  exact ⟨m1, m2, m3, m4, w1, w2, a1, a2, a3, a4, c1, c2, (is_dF r1 r3 r4).eq d1, (is_dF r2 r3 r4).eq d2⟩

end Go.Proofs.YtaaecodkdgkjoaaDoor.B
