/- Part of a claim: floats of 64 bits: products with powers of two; the lowest bit of a number; numbers without their twos. Nothing of a program stands here. -/
import Derived.Test.YtpddepehlinfnaaGreatDoorPFM
set_option linter.unusedSimpArgs false
set_option linter.unusedVariables false
namespace Go.Proofs.YtpddepehlinfnaaGreatDoor.FL
open Go Ieee

/-! ### Powers of two -/

theorem read_pow {k : Int} (h1 : -1022 ≤ k) (h2 : k ≤ 1023) : D.read ((1023 + k).toNat * 4503599627370496) = .number false 4503599627370496 (k - 52) := by
  obtain ⟨u, hu⟩ : ∃ u : Nat, (1023 + k).toNat = u + 1 := ⟨(1022 + k).toNat, by omega⟩
  have e := mag_up (e := u) (k := 4503599627370496) (by omega) (by omega)
  have hr : (1023 + k).toNat * 4503599627370496 = u * 4503599627370496 + 4503599627370496 := by rw [hu, Nat.succ_mul]
  have := read_word (s := false) (r := u * 4503599627370496 + 4503599627370496) (by omega)
  rw [e.1, e.2] at this
  rw [hr]
  rw [show D.word false (u * 4503599627370496 + 4503599627370496) = u * 4503599627370496 + 4503599627370496 by rfl] at this
  rw [this, show -1074 + (u : Int) = k - 52 by omega]

theorem pow_mul {s : Bool} {r : Nat} {k : Int} (h : r < 9218868437227405312) (h1 : -1022 ≤ k) (h2 : k ≤ 1023) : D.mul ((1023 + k).toNat * 4503599627370496) (D.word s r) = some (D.word s (rung (magOf r) (-1074 + upOf r + k))) := by
  unfold Format.mul
  rw [read_word h, read_pow h1 h2]
  simp only [Datum.product, Option.map_some, Format.write, Bool.false_xor]
  rw [nearest_rung]
  have := rung_scale (magOf r) 52 (k - 52 + (-1074 + (upOf r : Int)))
  rw [show 2 ^ 52 = 4503599627370496 by decide] at this
  rw [Nat.mul_comm, this]
  congr 3
  omega

/-! ### Twos -/

end Go.Proofs.YtpddepehlinfnaaGreatDoor.FL
