/- Part of a claim: what the evaluator's program is here: the tables, the library's functions without a body. (Printed by gen_base.py.) -/
import Derived.Test.YtaaecodkdgkjoaaDoorPEC
import Derived.Test.YtaaecodkdgkjoaaDoorChecked
import Derived.Test.YtaaecodkdgkjoaaDoorRows
set_option linter.unusedSimpArgs false
set_option linter.unusedVariables false
namespace Go.Proofs.YtaaecodkdgkjoaaDoor.B
open Go Go.RowKit Go.Proofs.YtaaecodkdgkjoaaDoor.E

/-- The functions without a body. -/
def X0 (k : FuncId) : Option (List AV → Heap → Option (AV × Heap)) :=
  if k = 68 then some (bitsX .f64 .u64) else if k = 67 then some (unbitsX .f64 .u64) else if k = 112 then some (idxByteX) else none

theorem X0_ok (M : Addr → Option AV) : ∀ k f, X0 k = some f → ∀ args H v H', f args H = some (v, H') → SemF Tryd.prog M k args H fun v' h => v' = v ∧ h = H' := by
  intro k f h
  unfold X0 at h
  split at h
  · rename_i hk; subst hk; cases h
    exact bitsX_ok (fn := Tryd.f68) (e := Extern.MathFloatBits.float64bits) Tryd.func68 (by kernel_rfl) (by kernel_rfl) (by kernel_rfl) (by kernel_rfl) fun _ _ => rfl
  · split at h
    · rename_i hk; subst hk; cases h
      exact unbitsX_ok (fn := Tryd.f67) (e := Extern.MathFloatBits.float64frombits) Tryd.func67 (by kernel_rfl) (by kernel_rfl) (by kernel_rfl) (by kernel_rfl) fun _ _ => rfl
    · split at h
      · rename_i hk; subst hk; cases h
        exact idxByteX_ok (fn := Tryd.f112) Tryd.func112 (by kernel_rfl) (by kernel_rfl) (by kernel_rfl) (by kernel_rfl)
      · cases h

noncomputable def T : Tab := tabOf Tryd.prog
theorem sound : Sound Tryd.prog T := ⟨tabOf_ok _, by kernel_rfl⟩

theorem names : (Tryd.prog.funcs.toList.all fun fn => !(fn.name == "runtime.NumGoroutine")) = true := by kernel_rfl
def skipped : List Nat := [3, 74, 75]
/-- The functions whose calls, in drawn regions, are quiet. -/
def quiet : List Nat := [10, 35, 53, 78, 45]
def Qt (k : FuncId) : Bool := quiet.contains k
theorem regs : (Tryd.prog.funcs.toList.zipIdx.all fun p => skipped.contains p.2 || match p.1.body with | some c => codeB Qt T c | none => true) = true := by kernel_rfl

/-- The functions that the evaluator takes. -/
noncomputable def F (k : FuncId) : Option Func := if skipped.contains k = true then none else Tryd.prog.funcs[k]?

theorem F_fn {k : FuncId} {fn : Func} (h : F k = some fn) : Tryd.prog.funcs[k]? = some fn ∧ skipped.contains k = false := by
  unfold F at h
  split at h
  · cases h
  · rename_i hk; exact ⟨h, by simpa using hk⟩

theorem F_name {k : FuncId} {fn : Func} (h : F k = some fn) : (fn.name == "runtime.NumGoroutine") = false := by
  have h1 := List.all_eq_true.1 names fn (by rw [Array.mem_toList_iff]; exact Array.mem_of_getElem? (F_fn h).1)
  rwa [Bool.not_eq_true'] at h1

theorem F_reg {k : FuncId} {fn : Func} {c : Code} (h : F k = some fn) (hb : fn.body = some c) : codeB Qt T c = true := by
  obtain ⟨h1, h2⟩ := F_fn h
  have h3 := List.all_eq_true.1 regs (fn, k) (by rw [List.mem_zipIdx_iff_getElem?, Array.getElem?_toList]; exact h1)
  rw [h2, Bool.false_or] at h3
  rw [hb] at h3; exact h3

/-- The program, with more contracts for functions proved apart. -/
noncomputable def GX (X : FuncId → Option (List AV → Heap → Option (AV × Heap))) : Prg := { T := T, F := F, Q := Qt, X := X }

theorem GX_ok {M : Addr → Option AV} {X : FuncId → Option (List AV → Heap → Option (AV × Heap))} (hX : ∀ k f, X k = some f → ∀ args H v H', f args H = some (v, H') → SemF Tryd.prog M k args H fun v' h => v' = v ∧ h = H') : GOK Tryd.prog (GX X) M := by
  exact GOK.of sound (fun _ _ h => (F_fn h).1) (fun _ _ h => F_name h) (fun _ _ _ h hb => F_reg h hb) hX

/-! ### The tables that the rows list -/

def tab_math_bits_deBruijn32tab : List AV := ints .u8 [0, 1, 28, 2, 29, 14, 24, 3, 30, 22, 20, 15, 25, 17, 4, 8, 31, 27, 13, 23, 21, 19, 16, 7, 26, 12, 18, 6, 11, 5, 10, 9]
def tab_math_bits_deBruijn64tab : List AV := ints .u8 [0, 1, 56, 2, 57, 49, 28, 3, 61, 58, 42, 50, 38, 29, 17, 4, 62, 47, 59, 36, 45, 43, 51, 22, 53, 39, 33, 30, 24, 18, 12, 5, 63, 55, 48, 27, 60, 41, 37, 16, 46, 35, 44, 21, 52, 32, 23, 11, 54, 26, 40, 15, 34, 20, 31, 10, 25, 14, 19, 9, 13, 8, 7, 6]
def tab_internal_strconv_uint64pow10 : List AV := ints .u64 [1, 10, 100, 1000, 10000, 100000, 1000000, 10000000, 100000000, 1000000000, 10000000000, 100000000000, 1000000000000, 10000000000000, 100000000000000, 1000000000000000, 10000000000000000, 100000000000000000, 1000000000000000000, 10000000000000000000]
def tab_unicode_utf8_acceptRanges : List AV := ints .u8 [128, 191, 160, 191, 128, 159, 144, 191, 128, 143, 0, 0, 0, 0, 0, 0, 0, 0, 0, 0, 0, 0, 0, 0, 0, 0, 0, 0, 0, 0, 0, 0]
def tab_unicode_utf8_first : List AV := ints .u8 (List.replicate 128 0xf0 ++ List.replicate 66 0xf1 ++ List.replicate 30 0x02 ++ [0x13] ++ List.replicate 12 0x03 ++ [0x23] ++ List.replicate 2 0x03 ++ [0x34] ++ List.replicate 3 0x04 ++ [0x44] ++ List.replicate 11 0xf1)
def tabs : List (Nat × List AV) := [(8, tab_math_bits_deBruijn32tab), (4, tab_math_bits_deBruijn64tab), (5, tab_internal_strconv_uint64pow10), (7, tab_unicode_utf8_acceptRanges), (6, tab_unicode_utf8_first)]
def plains : List Nat := [8, 4, 5, 7, 6]
def tabM : Addr → Option AV := tabsM tabs plains
def laidL : List (String × DataW Unit) := [("math/bits.deBruijn32tab", Rows.laid_math_bits_deBruijn32tab), ("math/bits.deBruijn64tab", Rows.laid_math_bits_deBruijn64tab), ("internal/strconv.uint64pow10", Rows.laid_internal_strconv_uint64pow10), ("unicode/utf8.acceptRanges", Rows.laid_unicode_utf8_acceptRanges), ("strconv.ErrRange", Rows.laid_strconv_ErrRange), ("strconv.ErrSyntax", Rows.laid_strconv_ErrSyntax), ("unicode/utf8.first", Rows.laid_unicode_utf8_first)]

theorem tabs_ok {W : World} (h : laidMet Tryd.prog laidL W) : ∀ a v, tabM a = some v → oldM W a = some v := by
  refine tabsM_ok (fun x hx => ?_) (fun b hb => ?_)
  rotate_left
  · simp only [plains, List.mem_cons, List.not_mem_nil, or_false] at hb
    rcases hb with rfl | rfl | rfl | rfl | rfl
    · exact laid_plain (fuel := 6) (t := 149) (l := tab_math_bits_deBruijn32tab) h 0 rfl (by kernel_rfl) (by kernel_rfl) (by kernel_rfl) (by decide +kernel)
    · exact laid_plain (fuel := 6) (t := 132) (l := tab_math_bits_deBruijn64tab) h 1 rfl (by kernel_rfl) (by kernel_rfl) (by kernel_rfl) (by decide +kernel)
    · exact laid_plain (fuel := 6) (t := 134) (l := tab_internal_strconv_uint64pow10) h 2 rfl (by kernel_rfl) (by kernel_rfl) (by kernel_rfl) (by decide +kernel)
    · exact laid_plain (fuel := 6) (t := 147) (l := tab_unicode_utf8_acceptRanges) h 3 rfl (by kernel_rfl) (by kernel_rfl) (by kernel_rfl) (by decide +kernel)
    · exact laid_plain (fuel := 6) (t := 144) (l := tab_unicode_utf8_first) h 6 rfl (by kernel_rfl) (by kernel_rfl) (by kernel_rfl) (by decide +kernel)
  simp only [tabs, List.mem_cons, List.not_mem_nil, or_false] at hx
  rcases hx with rfl | rfl | rfl | rfl | rfl
  · exact laid_table (fuel := 6) (t := 149) h 0 rfl (by kernel_rfl) (by kernel_rfl) (by kernel_rfl)
  · exact laid_table (fuel := 6) (t := 132) h 1 rfl (by kernel_rfl) (by kernel_rfl) (by kernel_rfl)
  · exact laid_table (fuel := 6) (t := 134) h 2 rfl (by kernel_rfl) (by kernel_rfl) (by kernel_rfl)
  · exact laid_table (fuel := 6) (t := 147) h 3 rfl (by kernel_rfl) (by kernel_rfl) (by kernel_rfl)
  · exact laid_table (fuel := 6) (t := 144) h 6 rfl (by kernel_rfl) (by kernel_rfl) (by kernel_rfl)

end Go.Proofs.YtaaecodkdgkjoaaDoor.B
