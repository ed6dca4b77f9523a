/- Part of a claim: what lies in one cell, by its form; a slice of bytes. Nothing of a program stands here. -/
import Derived.Test.YtnmignkabcblgaaDoorE28
set_option linter.unusedSimpArgs false
set_option linter.unusedVariables false
namespace Go.Proofs.YtnmignkabcblgaaDoor.E
open Go Go.RowKit

theorem cellsOf_bool {b : Bool} : cellsOf (.bool b) = [.bool b] := of_eq_true (eq_true rfl)
theorem isCell_bool {b : Bool} : isCell (.bool b) = true := of_eq_true (eq_true rfl)
theorem cellsOf_int {k : IntKind} {n : Int} : cellsOf (.int k n) = [.int k n] := of_eq_true (eq_true rfl)
theorem isCell_int {k : IntKind} {n : Int} : isCell (.int k n) = true := of_eq_true (eq_true rfl)
theorem cellsOf_float {k : FloatKind} {b : Nat} : cellsOf (.float k b) = [.float k b] := of_eq_true (eq_true rfl)
theorem isCell_float {k : FloatKind} {b : Nat} : isCell (.float k b) = true := of_eq_true (eq_true rfl)
theorem cellsOf_cplx {k : FloatKind} {a b : Nat} : cellsOf (.cplx k a b) = [.cplx k a b] := of_eq_true (eq_true rfl)
theorem isCell_cplx {k : FloatKind} {a b : Nat} : isCell (.cplx k a b) = true := of_eq_true (eq_true rfl)
theorem cellsOf_str {s : List UInt8} : cellsOf (.str s) = [.str s] := of_eq_true (eq_true rfl)
theorem isCell_str {s : List UInt8} : isCell (.str s) = true := of_eq_true (eq_true rfl)
theorem cellsOf_nilptr : cellsOf (.nilptr) = [.nilptr] := of_eq_true (eq_true rfl)
theorem isCell_nilptr : isCell (.nilptr) = true := of_eq_true (eq_true rfl)
theorem cellsOf_ptr {b e o : Nat} : cellsOf (.ptr b e o) = [.ptr b e o] := of_eq_true (eq_true rfl)
theorem isCell_ptr {b e o : Nat} : isCell (.ptr b e o) = true := of_eq_true (eq_true rfl)
theorem cellsOf_optr {a : Addr} : cellsOf (.optr a) = [.optr a] := of_eq_true (eq_true rfl)
theorem isCell_optr {a : Addr} : isCell (.optr a) = true := of_eq_true (eq_true rfl)
theorem cellsOf_nilslice : cellsOf (.nilslice) = [.nilslice] := of_eq_true (eq_true rfl)
theorem isCell_nilslice : isCell (.nilslice) = true := of_eq_true (eq_true rfl)
theorem cellsOf_slice {b e o z n : Nat} {c : Option Nat} : cellsOf (.slice b e o z n c) = [.slice b e o z n c] := of_eq_true (eq_true rfl)
theorem isCell_slice {b e o z n : Nat} {c : Option Nat} : isCell (.slice b e o z n c) = true := of_eq_true (eq_true rfl)
theorem cellsOf_oslice {a : Addr} {n m : Nat} : cellsOf (.oslice a n m) = [.oslice a n m] := of_eq_true (eq_true rfl)
theorem isCell_oslice {a : Addr} {n m : Nat} : isCell (.oslice a n m) = true := of_eq_true (eq_true rfl)
theorem cellsOf_func {f : Nat} : cellsOf (.func f) = [.func f] := of_eq_true (eq_true rfl)
theorem isCell_func {f : Nat} : isCell (.func f) = true := of_eq_true (eq_true rfl)
theorem cellsOf_nilfunc : cellsOf (.nilfunc) = [.nilfunc] := of_eq_true (eq_true rfl)
theorem isCell_nilfunc : isCell (.nilfunc) = true := of_eq_true (eq_true rfl)
theorem cellsOf_iface {t : TypeId} {v : AV} : cellsOf (.iface t v) = [.iface t v] := of_eq_true (eq_true rfl)
theorem isCell_iface {t : TypeId} {v : AV} : isCell (.iface t v) = true := of_eq_true (eq_true rfl)
theorem cellsOf_nilIface : cellsOf (.nilIface) = [.nilIface] := of_eq_true (eq_true rfl)
theorem isCell_nilIface : isCell (.nilIface) = true := of_eq_true (eq_true rfl)
theorem cellsOf_agg {l : List AV} : cellsOf (.agg l) = l := of_eq_true (eq_true rfl)
theorem zerosA_one {z : AV} {n : Nat} : zerosA [z] n = List.replicate n z := of_eq_true (eq_true rfl)

theorem Rep.one {el : TypeId} {sz : Nat} {H : Heap} {v : AV} {o : Option Nat} {cells : List AV} (h : Rep el sz H v o cells) : cellsOf v = [v] ∧ isCell v = true := by
  cases h <;> exact ⟨rfl, rfl⟩

theorem Rep.New.trans {H H' : Heap} {a b c : Option Nat} (h : Rep.New H a b) (k : Rep.New H' b c) (hl : H.length ≤ H'.length) : Rep.New H a c := by
  rcases k with rfl | ⟨x, rfl, hx⟩
  · exact h
  · exact .inr ⟨x, rfl, by omega⟩

theorem bits_u8 : IntKind.u8.bits = 8 := rfl
theorem bits_u16 : IntKind.u16.bits = 16 := rfl
theorem bits_u32 : IntKind.u32.bits = 32 := rfl
theorem bits_u64 : IntKind.u64.bits = 64 := rfl
theorem bits_i8 : IntKind.i8.bits = 8 := rfl
theorem bits_i16 : IntKind.i16.bits = 16 := rfl
theorem bits_i32 : IntKind.i32.bits = 32 := rfl
theorem bits_i64 : IntKind.i64.bits = 64 := rfl

theorem io_add {k : IntKind} {x y : Int} : intOp .add k x y = some (.int k (k.wrap (x + y))) := rfl
theorem io_sub {k : IntKind} {x y : Int} : intOp .sub k x y = some (.int k (k.wrap (x - y))) := rfl
theorem io_mul {k : IntKind} {x y : Int} : intOp .mul k x y = some (.int k (k.wrap (x * y))) := rfl
theorem io_eql {k : IntKind} {x y : Int} : intOp .eql k x y = some (.bool (x == y)) := rfl
theorem io_neq {k : IntKind} {x y : Int} : intOp .neq k x y = some (.bool (x != y)) := rfl
theorem io_lss {k : IntKind} {x y : Int} : intOp .lss k x y = some (.bool (decide (x < y))) := rfl
theorem io_leq {k : IntKind} {x y : Int} : intOp .leq k x y = some (.bool (decide (x ≤ y))) := rfl
theorem io_gtr {k : IntKind} {x y : Int} : intOp .gtr k x y = some (.bool (decide (x > y))) := rfl
theorem io_geq {k : IntKind} {x y : Int} : intOp .geq k x y = some (.bool (decide (x ≥ y))) := rfl
theorem io_quo {k : IntKind} {x y : Int} : intOp .quo k x y = if y = 0 then none else some (.int k (k.wrap (x.tdiv y))) := rfl
theorem io_rem {k : IntKind} {x y : Int} : intOp .rem k x y = if y = 0 then none else some (.int k (x.tmod y)) := rfl
theorem io_and_u8 {x y : Int} : intOp .and .u8 x y = some (.int .u8 (IntKind.u8.wrap ((BitVec.ofInt 8 x &&& BitVec.ofInt 8 y).toNat : Int))) := rfl
theorem io_or_u8 {x y : Int} : intOp .or .u8 x y = some (.int .u8 (IntKind.u8.wrap ((BitVec.ofInt 8 x ||| BitVec.ofInt 8 y).toNat : Int))) := rfl
theorem io_xor_u8 {x y : Int} : intOp .xor .u8 x y = some (.int .u8 (IntKind.u8.wrap ((BitVec.ofInt 8 x ^^^ BitVec.ofInt 8 y).toNat : Int))) := rfl
theorem io_andNot_u8 {x y : Int} : intOp .andNot .u8 x y = some (.int .u8 (IntKind.u8.wrap ((BitVec.ofInt 8 x &&& ~~~ BitVec.ofInt 8 y).toNat : Int))) := rfl
theorem io_and_u16 {x y : Int} : intOp .and .u16 x y = some (.int .u16 (IntKind.u16.wrap ((BitVec.ofInt 16 x &&& BitVec.ofInt 16 y).toNat : Int))) := rfl
theorem io_or_u16 {x y : Int} : intOp .or .u16 x y = some (.int .u16 (IntKind.u16.wrap ((BitVec.ofInt 16 x ||| BitVec.ofInt 16 y).toNat : Int))) := rfl
theorem io_xor_u16 {x y : Int} : intOp .xor .u16 x y = some (.int .u16 (IntKind.u16.wrap ((BitVec.ofInt 16 x ^^^ BitVec.ofInt 16 y).toNat : Int))) := rfl
theorem io_andNot_u16 {x y : Int} : intOp .andNot .u16 x y = some (.int .u16 (IntKind.u16.wrap ((BitVec.ofInt 16 x &&& ~~~ BitVec.ofInt 16 y).toNat : Int))) := rfl
theorem io_and_u32 {x y : Int} : intOp .and .u32 x y = some (.int .u32 (IntKind.u32.wrap ((BitVec.ofInt 32 x &&& BitVec.ofInt 32 y).toNat : Int))) := rfl
theorem io_or_u32 {x y : Int} : intOp .or .u32 x y = some (.int .u32 (IntKind.u32.wrap ((BitVec.ofInt 32 x ||| BitVec.ofInt 32 y).toNat : Int))) := rfl
theorem io_xor_u32 {x y : Int} : intOp .xor .u32 x y = some (.int .u32 (IntKind.u32.wrap ((BitVec.ofInt 32 x ^^^ BitVec.ofInt 32 y).toNat : Int))) := rfl
theorem io_andNot_u32 {x y : Int} : intOp .andNot .u32 x y = some (.int .u32 (IntKind.u32.wrap ((BitVec.ofInt 32 x &&& ~~~ BitVec.ofInt 32 y).toNat : Int))) := rfl
theorem io_and_u64 {x y : Int} : intOp .and .u64 x y = some (.int .u64 (IntKind.u64.wrap ((BitVec.ofInt 64 x &&& BitVec.ofInt 64 y).toNat : Int))) := rfl
theorem io_or_u64 {x y : Int} : intOp .or .u64 x y = some (.int .u64 (IntKind.u64.wrap ((BitVec.ofInt 64 x ||| BitVec.ofInt 64 y).toNat : Int))) := rfl
theorem io_xor_u64 {x y : Int} : intOp .xor .u64 x y = some (.int .u64 (IntKind.u64.wrap ((BitVec.ofInt 64 x ^^^ BitVec.ofInt 64 y).toNat : Int))) := rfl
theorem io_andNot_u64 {x y : Int} : intOp .andNot .u64 x y = some (.int .u64 (IntKind.u64.wrap ((BitVec.ofInt 64 x &&& ~~~ BitVec.ofInt 64 y).toNat : Int))) := rfl
theorem io_and_i64 {x y : Int} : intOp .and .i64 x y = some (.int .i64 (IntKind.i64.wrap ((BitVec.ofInt 64 x &&& BitVec.ofInt 64 y).toNat : Int))) := rfl
theorem io_or_i64 {x y : Int} : intOp .or .i64 x y = some (.int .i64 (IntKind.i64.wrap ((BitVec.ofInt 64 x ||| BitVec.ofInt 64 y).toNat : Int))) := rfl
theorem io_xor_i64 {x y : Int} : intOp .xor .i64 x y = some (.int .i64 (IntKind.i64.wrap ((BitVec.ofInt 64 x ^^^ BitVec.ofInt 64 y).toNat : Int))) := rfl
theorem io_andNot_i64 {x y : Int} : intOp .andNot .i64 x y = some (.int .i64 (IntKind.i64.wrap ((BitVec.ofInt 64 x &&& ~~~ BitVec.ofInt 64 y).toNat : Int))) := rfl
theorem io_and_i32 {x y : Int} : intOp .and .i32 x y = some (.int .i32 (IntKind.i32.wrap ((BitVec.ofInt 32 x &&& BitVec.ofInt 32 y).toNat : Int))) := rfl
theorem io_or_i32 {x y : Int} : intOp .or .i32 x y = some (.int .i32 (IntKind.i32.wrap ((BitVec.ofInt 32 x ||| BitVec.ofInt 32 y).toNat : Int))) := rfl
theorem io_xor_i32 {x y : Int} : intOp .xor .i32 x y = some (.int .i32 (IntKind.i32.wrap ((BitVec.ofInt 32 x ^^^ BitVec.ofInt 32 y).toNat : Int))) := rfl
theorem io_andNot_i32 {x y : Int} : intOp .andNot .i32 x y = some (.int .i32 (IntKind.i32.wrap ((BitVec.ofInt 32 x &&& ~~~ BitVec.ofInt 32 y).toNat : Int))) := rfl
theorem un_neg {k : IntKind} {n : Int} : unA .neg (.int k n) = some (.int k (k.wrap (0 - n))) := rfl
theorem un_not {b : Bool} : unA .not (.bool b) = some (.bool !b) := rfl
theorem un_negf {k : FloatKind} {b : Nat} : unA .neg (.float k b) = if isNaN k b then none else some (.float k (negF k b)) := rfl
theorem un_xor_u8 {n : Int} : unA .xor (.int .u8 n) = some (.int .u8 (IntKind.u8.wrap ((BitVec.ofInt 8 (255) ^^^ BitVec.ofInt 8 n).toNat : Int))) := rfl
theorem un_xor_u16 {n : Int} : unA .xor (.int .u16 n) = some (.int .u16 (IntKind.u16.wrap ((BitVec.ofInt 16 (65535) ^^^ BitVec.ofInt 16 n).toNat : Int))) := rfl
theorem un_xor_u32 {n : Int} : unA .xor (.int .u32 n) = some (.int .u32 (IntKind.u32.wrap ((BitVec.ofInt 32 (4294967295) ^^^ BitVec.ofInt 32 n).toNat : Int))) := rfl
theorem un_xor_u64 {n : Int} : unA .xor (.int .u64 n) = some (.int .u64 (IntKind.u64.wrap ((BitVec.ofInt 64 (18446744073709551615) ^^^ BitVec.ofInt 64 n).toNat : Int))) := rfl
theorem un_xor_i64 {n : Int} : unA .xor (.int .i64 n) = some (.int .i64 (IntKind.i64.wrap ((BitVec.ofInt 64 (-1) ^^^ BitVec.ofInt 64 n).toNat : Int))) := rfl

theorem hp_get0 {l r : Heap} : (l ++ r)[l.length]? = r[0]? := by rw [List.getElem?_append_right (Nat.le_refl _), Nat.sub_self]
theorem hp_getk {l r : Heap} {k : Nat} : (l ++ r)[l.length + k]? = r[k]? := by rw [List.getElem?_append_right (by omega), show l.length + k - l.length = k by omega]
theorem hp_set0 {l r : Heap} {x : HB} : (l ++ r).set l.length x = l ++ r.set 0 x := by rw [List.set_append_right _ _ (Nat.le_refl _), Nat.sub_self]
theorem hp_setk {l r : Heap} {k : Nat} {x : HB} : (l ++ r).set (l.length + k) x = l ++ r.set k x := by rw [List.set_append_right _ _ (by omega), show l.length + k - l.length = k by omega]

/-- What lies in slots that nobody asks for. -/
def jk (g : Nat → AV) : Nat → Nat → List AV
  | _, 0 => []
  | k, n + 1 => g k :: jk g (k + 1) n
theorem jk_get (g : Nat → AV) : ∀ (n k i : Nat), (jk g k n)[i]? = if i < n then some (g (k + i)) else none
  | 0, _, _ => by simp [jk]
  | n + 1, k, 0 => by simp [jk]
  | n + 1, k, i + 1 => by
    rw [jk, List.getElem?_cons_succ, jk_get g n (k + 1) i, show k + 1 + i = k + (i + 1) by omega]
    by_cases h : i < n
    · rw [if_pos h, if_pos (by omega)]
    · rw [if_neg h, if_neg (by omega)]
theorem junk (n : Nat) (j : List AV) (h : j.length = n) : ∃ g : Nat → AV, j = jk g 0 n :=
  ⟨fun i => j.getD i (.tup []), by
    refine List.ext_getElem? fun i => ?_
    rw [jk_get, Nat.zero_add]
    by_cases hi : i < n
    · rw [if_pos hi, List.getD_eq_getElem?_getD, List.getElem?_eq_getElem (by omega)]; rfl
    · rw [if_neg hi, List.getElem?_eq_none (by omega)]⟩

end Go.Proofs.YtnmignkabcblgaaDoor.E
