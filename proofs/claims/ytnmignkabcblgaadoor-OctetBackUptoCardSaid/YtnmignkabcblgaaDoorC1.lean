/- Part of a claim: bytes of numbers, sums, in plain Lean. Nothing of a program stands here. -/
import Derived.Test.YtnmignkabcblgaaDoorEB
set_option linter.unusedSimpArgs false
set_option linter.unusedVariables false
namespace Go.Proofs.YtnmignkabcblgaaDoor.C
open Go Go.RowKit Go.Proofs.YtnmignkabcblgaaDoor.E

/-- A byte's cell. -/
def u8 (b : UInt8) : AV := .int .u8 b.toNat
abbrev cellsB (l : List UInt8) : List AV := l.map u8

theorem cellsB_cell (l : List UInt8) : (cellsB l).all isCell = true := by
  simp only [List.all_map, List.all_eq_true]
  intro x _; rfl
theorem cellsB_plain (l : List UInt8) : (cellsB l).all plainA = true := by
  simp only [List.all_map, List.all_eq_true]
  intro x _; rfl
theorem bytesOf_cells : ∀ l : List UInt8, bytesOf (cellsB l) = some l
  | [] => rfl
  | x :: l => by
    show (bytesOf (cellsB l)).map _ = _
    rw [bytesOf_cells l]
    simp

theorem cellsOf_u8 {b : UInt8} : cellsOf (u8 b) = [u8 b] := of_eq_true (eq_true rfl)
theorem isCell_u8 {b : UInt8} : isCell (u8 b) = true := of_eq_true (eq_true rfl)
theorem shr8 : (2 : Int) ^ 8 = 256 := by decide

/-- The lowest byte. -/
def byteI (v : Int) : UInt8 := UInt8.ofNat (v % 256).toNat
theorem wrap_u8 (v : Int) : AV.int .u8 (IntKind.u8.wrap v) = u8 (byteI v) := by
  have h : IntKind.u8.wrap v = v % 256 := rfl
  rw [h]
  unfold u8 byteI
  congr 1
  simp only [UInt8.toNat_ofNat']
  omega

/-- The lowest bytes, the lowest first. -/
def leI (v : Int) : Nat → List UInt8
  | 0 => []
  | n + 1 => byteI v :: leI (v.fdiv 256) n

theorem leI_length : ∀ (n : Nat) (v : Int), (leI v n).length = n
  | 0, _ => rfl
  | n + 1, v => by rw [leI, List.length_cons, leI_length n]

/-- The bytes, taken one by one. -/
def numI (v : Int) (n : Nat) : List UInt8 := (List.range n).map fun i => byteI (v.fdiv (2 ^ (8 * i)))

theorem numI_eq : ∀ (n : Nat) (v : Int), numI v n = leI v n
  | 0, _ => rfl
  | n + 1, v => by
    have ih := numI_eq n (v.fdiv 256)
    unfold numI at ih ⊢
    rw [List.range_succ_eq_map, List.map_cons, List.map_map, leI, ← ih]
    congr 1
    · simp
    · refine List.map_congr_left fun i _ => ?_
      show byteI (v.fdiv (2 ^ (8 * (i + 1)))) = byteI ((v.fdiv 256).fdiv (2 ^ (8 * i)))
      congr 1
      have hp : (0 : Int) ≤ 2 ^ (8 * i) := Int.pow_nonneg (by omega)
      have hq : (0 : Int) ≤ 2 ^ (8 * (i + 1)) := Int.pow_nonneg (by omega)
      rw [Int.fdiv_eq_ediv_of_nonneg _ hq, Int.fdiv_eq_ediv_of_nonneg _ hp, Int.fdiv_eq_ediv_of_nonneg _ (by omega : (0 : Int) ≤ 256), Int.ediv_ediv, if_neg (by omega), Int.sub_zero]
      congr 1
      rw [show 8 * (i + 1) = 8 + 8 * i by omega, Int.pow_add]; rfl

end Go.Proofs.YtnmignkabcblgaaDoor.C
