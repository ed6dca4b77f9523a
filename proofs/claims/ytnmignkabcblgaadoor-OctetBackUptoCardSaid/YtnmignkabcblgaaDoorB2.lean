/- Part of a claim: the kinds of value that this program names, by number. -/
import Derived.Test.YtnmignkabcblgaaDoorB1
import Derived.Test.YtnmignkabcblgaaDoorEB
set_option linter.unusedSimpArgs false
set_option linter.unusedVariables false
namespace Go.Proofs.YtnmignkabcblgaaDoor.B
open Go Go.RowKit Go.Proofs.YtnmignkabcblgaaDoor.E

/-- What the texts ask of the table of kinds. -/
structure Ty (T : Tab) : Prop where
  ty3 : T 3 = some { und := TypeDesc.int IntKind.i64, size := 1, bytes := 8, zero := Value.int IntKind.i64 0, eqg := false, stood := false }
  ty4 : T 4 = some { und := TypeDesc.bool, size := 1, bytes := 1, zero := Value.bool false, eqg := false, stood := false }
  ty5 : T 5 = some { und := TypeDesc.int IntKind.u8, size := 1, bytes := 1, zero := Value.int IntKind.u8 0, eqg := false, stood := false }
  ty9 : T 9 = some { und := TypeDesc.string, size := 1, bytes := 16, zero := Value.string { data := #[] }, eqg := false, stood := false }
  ty12 : T 12 = some { und := TypeDesc.int IntKind.u64, size := 1, bytes := 8, zero := Value.int IntKind.u64 0, eqg := false, stood := false }
  ty22 : T 22 = some { und := TypeDesc.slice 32, size := 1, bytes := 24, zero := Value.slice none 0 0, eqg := false, stood := false }
  ty23 : T 23 = some { und := TypeDesc.pointer 26, size := 1, bytes := 8, zero := Value.pointer none, eqg := false, stood := false }
  ty24 : T 24 = some { und := TypeDesc.slice 5, size := 1, bytes := 24, zero := Value.slice none 0 0, eqg := false, stood := false }
  ty26 : T 26 = some { und := TypeDesc.struct #[{ name := "B", type := 24, offset := 0, embedded := false, tag := "", pkgPath := "", byteOffset := 0 }], size := 1, bytes := 24, zero := Value.agg #[Value.slice none 0 0], eqg := false, stood := false }
  ty27 : T 27 = some { und := TypeDesc.int IntKind.i64, size := 1, bytes := 8, zero := Value.int IntKind.i64 0, eqg := false, stood := false }
  ty28 : T 28 = some { und := TypeDesc.int IntKind.u64, size := 1, bytes := 8, zero := Value.int IntKind.u64 0, eqg := false, stood := false }
  ty29 : T 29 = some { und := TypeDesc.float FloatKind.f64, size := 1, bytes := 8, zero := Value.float FloatKind.f64 0, eqg := false, stood := false }
  ty30 : T 30 = some { und := TypeDesc.float FloatKind.f32, size := 1, bytes := 4, zero := Value.float FloatKind.f32 0, eqg := false, stood := false }
  ty32 : T 32 = some { und := TypeDesc.struct #[{ name := "Kind", type := 3, offset := 0, embedded := false, tag := "", pkgPath := "", byteOffset := 0 }, { name := "N", type := 28, offset := 1, embedded := false, tag := "", pkgPath := "", byteOffset := 8 }, { name := "F", type := 29, offset := 2, embedded := false, tag := "", pkgPath := "", byteOffset := 16 }, { name := "G", type := 30, offset := 3, embedded := false, tag := "", pkgPath := "", byteOffset := 24 }, { name := "S", type := 9, offset := 4, embedded := false, tag := "", pkgPath := "", byteOffset := 32 }], size := 5, bytes := 48, zero := Value.agg { toList := [Value.int IntKind.i64 0, Value.int IntKind.u64 0, Value.float FloatKind.f64 0, Value.float FloatKind.f32 0, Value.string { data := #[] }] }, eqg := false, stood := false }
  ty36 : T 36 = some { und := TypeDesc.int IntKind.u16, size := 1, bytes := 2, zero := Value.int IntKind.u16 0, eqg := false, stood := false }
  ty38 : T 38 = some { und := TypeDesc.int IntKind.u32, size := 1, bytes := 4, zero := Value.int IntKind.u32 0, eqg := false, stood := false }
  ty70 : T 70 = some { und := TypeDesc.struct #[{ name := "made", type := 4, offset := 0, embedded := false, tag := "", pkgPath := "phasor/octet", byteOffset := 0 }, { name := "left", type := 24, offset := 1, embedded := false, tag := "", pkgPath := "phasor/octet", byteOffset := 8 }], size := 2, bytes := 32, zero := Value.agg #[Value.bool false, Value.slice none 0 0], eqg := false, stood := false }
  ty71 : T 71 = some { und := TypeDesc.struct #[{ name := "made", type := 4, offset := 0, embedded := false, tag := "", pkgPath := "phasor/octet", byteOffset := 0 }, { name := "left", type := 24, offset := 1, embedded := false, tag := "", pkgPath := "phasor/octet", byteOffset := 8 }], size := 2, bytes := 32, zero := Value.agg #[Value.bool false, Value.slice none 0 0], eqg := false, stood := false }
  ty79 : T 79 = some { und := TypeDesc.int IntKind.u64, size := 1, bytes := 8, zero := Value.int IntKind.u64 0, eqg := false, stood := false }

theorem types : Ty T where
  ty3 := by kernel_rfl
  ty4 := by kernel_rfl
  ty5 := by kernel_rfl
  ty9 := by kernel_rfl
  ty12 := by kernel_rfl
  ty22 := by kernel_rfl
  ty23 := by kernel_rfl
  ty24 := by kernel_rfl
  ty26 := by kernel_rfl
  ty27 := by kernel_rfl
  ty28 := by kernel_rfl
  ty29 := by kernel_rfl
  ty30 := by kernel_rfl
  ty32 := by kernel_rfl
  ty36 := by kernel_rfl
  ty38 := by kernel_rfl
  ty70 := by kernel_rfl
  ty71 := by kernel_rfl
  ty79 := by kernel_rfl

/-- A function of this program, by its body. -/
theorem fn {M : Addr → Option AV} {k : FuncId} {fn : Func} {c : Code} {args : List AV} {H : Heap} {Q : AV → Heap → Prop} (hf : Tryd.prog.funcs[k]? = some fn) (hname : (fn.name == "runtime.NumGoroutine") = false) (hb : fn.body = some c) (hr : codeB T c = true)
    (h : ∀ S L T, Ty T → (∀ k args H v h, SemF Tryd.prog M k args H (fun v' h' => v' = v ∧ h' = h) → S k args H v h) → (∀ c env H K, SemC Tryd.prog M c env H K → L c env H K) → wC S L T M c (args ++ List.replicate (fn.ntmps - args.length) (.tup [])) H (fun o e h => match o with | .exit _ => False | .normal => ∃ l, resA T M e h fn.results.toList = some l ∧ Q (resultA l) h | .ret => ∃ l, resA T M e h fn.results.toList = some l ∧ Q (resultA l) h) .mk) : SemF Tryd.prog M k args H Q :=
  fn_sound sound hf hname hb hr fun S L hS hL => h S L T types hS hL

end Go.Proofs.YtnmignkabcblgaaDoor.B
