/- Part of a claim: the operations' equations by the form of their operand; numbers that fit. Nothing of a program stands here. -/
import Derived.Test.YtnmignkabcblgaaDoorE26
set_option linter.unusedSimpArgs false
set_option linter.unusedVariables false
namespace Go.Proofs.YtnmignkabcblgaaDoor.E
open Go Go.RowKit

/-- As the definitions that they copy; the rewriter unfolds them at a known operand alone. -/
def lenK (T : Tab) (ts : List TypeId) (x : AV) : Option AV :=
  match ts with
  | t :: _ =>
    match T t with
    | some i =>
      match i.und, x with
      | .array n _, _ => some (.int .i64 n)
      | .string, .str s => some (.int .i64 s.length)
      | .slice _, x => match x with
        | .nilslice => some (.int .i64 0)
        | .slice _ _ _ _ len _ => some (.int .i64 len)
        | .oslice _ len _ => some (.int .i64 len)
        | _ => none
      | _, _ => none
    | none => none
  | _ => none

def indexK (T : Tab) (H : Heap) (t : TypeId) (x ix : AV) : Option AV :=
  match T t, ix with
  | some i, .int _ n =>
    match i.und with
    | .array len e =>
      match T e with
      | none => none
      | some j => if j.size ≠ 0 ∧ 0 ≤ n ∧ n < len then
          match x with
          | .ptr b ep off => if ptrOK H b ep (off + n.toNat * j.size) then some (.ptr b ep (off + n.toNat * j.size)) else none
          | .optr a => some (.optr (a.add (n.toNat * j.size)))
          | _ => none
        else none
    | .slice e =>
      match T e with
      | none => none
      | some j =>
        match x with
        | .slice b ep off sz len _ => if j.size = sz ∧ sz ≠ 0 ∧ 0 ≤ n ∧ n < len then some (.ptr b ep (off + n.toNat * sz)) else none
        | .oslice a len _ => if 0 ≤ n ∧ n < len then some (.optr (a.add (n.toNat * j.size))) else none
        | _ => none
    | _ => none
  | _, _ => none

def loadK (T : Tab) (M : Addr → Option AV) (H : Heap) (t : TypeId) (p : AV) : Option AV :=
  match T t with
  | none => none
  | some i =>
    if isAggT i.und then (readN M H p i.size).map .agg
    else match readN M H p 1 with
      | some [v] => some v
      | _ => none

section
variable {T : Tab} {M : Addr → Option AV} {H : Heap} {t : TypeId} {ts : List TypeId} {b e off sz n m : Nat} {c : Option Nat} {a : Addr} {ix : AV} {s : List UInt8} {l : List AV}
theorem lenB_nil : lenB T ts .nilslice = lenK T ts .nilslice := of_eq_true (eq_true rfl)
theorem lenB_slice : lenB T ts (.slice b e off sz n c) = lenK T ts (.slice b e off sz n c) := of_eq_true (eq_true rfl)
theorem lenB_oslice : lenB T ts (.oslice a n m) = lenK T ts (.oslice a n m) := of_eq_true (eq_true rfl)
theorem lenB_str : lenB T ts (.str s) = lenK T ts (.str s) := of_eq_true (eq_true rfl)
theorem lenB_agg : lenB T ts (.agg l) = lenK T ts (.agg l) := of_eq_true (eq_true rfl)
theorem indexAddrA_slice : indexAddrA T H t (.slice b e off sz n c) ix = indexK T H t (.slice b e off sz n c) ix := of_eq_true (eq_true rfl)
theorem indexAddrA_oslice : indexAddrA T H t (.oslice a n m) ix = indexK T H t (.oslice a n m) ix := of_eq_true (eq_true rfl)
theorem indexAddrA_ptr : indexAddrA T H t (.ptr b e off) ix = indexK T H t (.ptr b e off) ix := of_eq_true (eq_true rfl)
theorem indexAddrA_optr : indexAddrA T H t (.optr a) ix = indexK T H t (.optr a) ix := of_eq_true (eq_true rfl)
theorem loadA_ptr : loadA T M H t (.ptr b e off) = loadK T M H t (.ptr b e off) := of_eq_true (eq_true rfl)
theorem loadA_optr : loadA T M H t (.optr a) = loadK T M H t (.optr a) := of_eq_true (eq_true rfl)
end

theorem wrap_i64 {x : Int} (h1 : -9223372036854775808 ≤ x) (h2 : x < 9223372036854775808) : IntKind.i64.wrap x = x := by
  have h : IntKind.i64.wrap x = if true && decide (x % 18446744073709551616 ≥ 9223372036854775808) then x % 18446744073709551616 - 18446744073709551616 else x % 18446744073709551616 := rfl
  rw [h]
  split
  · rename_i h3
    simp only [Bool.true_and, decide_eq_true_eq] at h3
    omega
  · rename_i h3
    simp only [Bool.true_and, decide_eq_true_eq] at h3
    omega
theorem wrap_u64 {x : Int} (h1 : 0 ≤ x) (h2 : x < 18446744073709551616) : IntKind.u64.wrap x = x := by
  have h : IntKind.u64.wrap x = x % 18446744073709551616 := rfl
  omega
theorem wrap_u32 {x : Int} (h1 : 0 ≤ x) (h2 : x < 4294967296) : IntKind.u32.wrap x = x := by
  have h : IntKind.u32.wrap x = x % 4294967296 := rfl
  omega
theorem wrap_u16 {x : Int} (h1 : 0 ≤ x) (h2 : x < 65536) : IntKind.u16.wrap x = x := by
  have h : IntKind.u16.wrap x = x % 65536 := rfl
  omega
theorem wrap_u8_id {x : Int} (h1 : 0 ≤ x) (h2 : x < 256) : IntKind.u8.wrap x = x := by
  have h : IntKind.u8.wrap x = x % 256 := rfl
  omega

end Go.Proofs.YtnmignkabcblgaaDoor.E
