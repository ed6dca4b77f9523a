/- Part of a claim: the kinds of value that this program names, by number; a function by its body. -/
import Derived.Test.YtnmignkabcblgaaDoorB1
import Derived.Test.YtnmignkabcblgaaDoorC1
import Derived.Test.YtnmignkabcblgaaDoorEB
set_option linter.unusedSimpArgs false
set_option linter.unusedVariables false
namespace Go.Proofs.YtnmignkabcblgaaDoor.C
open Go Go.RowKit Go.Proofs.YtnmignkabcblgaaDoor.E Go.Proofs.YtnmignkabcblgaaDoor.B

/-- What the texts ask of the table of kinds. -/
structure Ty (T : Tab) : Prop where
  ty0 : T 0 = some { und := TypeDesc.tuple #[], size := 1, bytes := 0, zero := Value.tuple #[], eqg := false, stood := false }
  ty1 : T 1 = some { und := TypeDesc.func #[] #[] false, size := 1, bytes := 8, zero := Value.nilFunc, eqg := false, stood := false }
  ty2 : T 2 = some { und := TypeDesc.int IntKind.i64, size := 1, bytes := 8, zero := Value.int IntKind.i64 0, eqg := false, stood := false }
  ty3 : T 3 = some { und := TypeDesc.int IntKind.i64, size := 1, bytes := 8, zero := Value.int IntKind.i64 0, eqg := false, stood := false }
  ty4 : T 4 = some { und := TypeDesc.bool, size := 1, bytes := 1, zero := Value.bool false, eqg := false, stood := false }
  ty5 : T 5 = some { und := TypeDesc.int IntKind.u8, size := 1, bytes := 1, zero := Value.int IntKind.u8 0, eqg := false, stood := false }
  ty9 : T 9 = some { und := TypeDesc.string, size := 1, bytes := 16, zero := Value.string { data := #[] }, eqg := false, stood := false }
  ty12 : T 12 = some { und := TypeDesc.int IntKind.u64, size := 1, bytes := 8, zero := Value.int IntKind.u64 0, eqg := false, stood := false }
  ty21 : T 21 = some { und := TypeDesc.int IntKind.i32, size := 1, bytes := 4, zero := Value.int IntKind.i32 0, eqg := false, stood := false }
  ty22 : T 22 = some { und := TypeDesc.slice 32, size := 1, bytes := 24, zero := Value.slice none 0 0, eqg := false, stood := false }
  ty23 : T 23 = some { und := TypeDesc.pointer 26, size := 1, bytes := 8, zero := Value.pointer none, eqg := false, stood := false }
  ty24 : T 24 = some { und := TypeDesc.slice 5, size := 1, bytes := 24, zero := Value.slice none 0 0, eqg := false, stood := false }
  ty26 : T 26 = some { und := TypeDesc.struct #[{ name := "B", type := 24, offset := 0, embedded := false, tag := "", pkgPath := "", byteOffset := 0 }], size := 1, bytes := 24, zero := Value.agg #[Value.slice none 0 0], eqg := false, stood := false }
  ty27 : T 27 = some { und := TypeDesc.int IntKind.i64, size := 1, bytes := 8, zero := Value.int IntKind.i64 0, eqg := false, stood := false }
  ty28 : T 28 = some { und := TypeDesc.int IntKind.u64, size := 1, bytes := 8, zero := Value.int IntKind.u64 0, eqg := false, stood := false }
  ty29 : T 29 = some { und := TypeDesc.float FloatKind.f64, size := 1, bytes := 8, zero := Value.float FloatKind.f64 0, eqg := false, stood := false }
  ty30 : T 30 = some { und := TypeDesc.float FloatKind.f32, size := 1, bytes := 4, zero := Value.float FloatKind.f32 0, eqg := false, stood := false }
  ty32 : T 32 = some { und := TypeDesc.struct #[{ name := "Kind", type := 3, offset := 0, embedded := false, tag := "", pkgPath := "", byteOffset := 0 }, { name := "N", type := 28, offset := 1, embedded := false, tag := "", pkgPath := "", byteOffset := 8 }, { name := "F", type := 29, offset := 2, embedded := false, tag := "", pkgPath := "", byteOffset := 16 }, { name := "G", type := 30, offset := 3, embedded := false, tag := "", pkgPath := "", byteOffset := 24 }, { name := "S", type := 9, offset := 4, embedded := false, tag := "", pkgPath := "", byteOffset := 32 }], size := 5, bytes := 48, zero := Value.agg { toList := [Value.int IntKind.i64 0, Value.int IntKind.u64 0, Value.float FloatKind.f64 0, Value.float FloatKind.f32 0, Value.string { data := #[] }] }, eqg := false, stood := false }
  ty36 : T 36 = some { und := TypeDesc.int IntKind.u16, size := 1, bytes := 2, zero := Value.int IntKind.u16 0, eqg := false, stood := false }
  ty38 : T 38 = some { und := TypeDesc.int IntKind.u32, size := 1, bytes := 4, zero := Value.int IntKind.u32 0, eqg := false, stood := false }
  ty45 : T 45 = some { und := TypeDesc.tuple #[24, 3], size := 1, bytes := 0, zero := Value.tuple #[Value.slice none 0 0, Value.int IntKind.i64 0], eqg := false, stood := false }
  ty50 : T 50 = some { und := TypeDesc.slice 24, size := 1, bytes := 24, zero := Value.slice none 0 0, eqg := false, stood := false }
  ty53 : T 53 = some { und := TypeDesc.tuple #[24, 27], size := 1, bytes := 0, zero := Value.tuple #[Value.slice none 0 0, Value.int IntKind.i64 0], eqg := false, stood := false }
  ty60 : T 60 = some { und := TypeDesc.slice 3, size := 1, bytes := 24, zero := Value.slice none 0 0, eqg := false, stood := false }
  ty61 : T 61 = some { und := TypeDesc.pointer 71, size := 1, bytes := 8, zero := Value.pointer none, eqg := false, stood := false }
  ty63 : T 63 = some { und := TypeDesc.pointer 65, size := 1, bytes := 8, zero := Value.pointer none, eqg := false, stood := false }
  ty65 : T 65 = some { und := TypeDesc.struct #[{ name := "B", type := 24, offset := 0, embedded := false, tag := "", pkgPath := "", byteOffset := 0 }, { name := "At", type := 3, offset := 1, embedded := false, tag := "", pkgPath := "", byteOffset := 24 }], size := 2, bytes := 32, zero := Value.agg #[Value.slice none 0 0, Value.int IntKind.i64 0], eqg := false, stood := false }
  ty71 : T 71 = some { und := TypeDesc.struct #[{ name := "made", type := 4, offset := 0, embedded := false, tag := "", pkgPath := "phasor/octet", byteOffset := 0 }, { name := "left", type := 24, offset := 1, embedded := false, tag := "", pkgPath := "phasor/octet", byteOffset := 8 }], size := 2, bytes := 32, zero := Value.agg #[Value.bool false, Value.slice none 0 0], eqg := false, stood := false }
  ty79 : T 79 = some { und := TypeDesc.int IntKind.u64, size := 1, bytes := 8, zero := Value.int IntKind.u64 0, eqg := false, stood := false }
  ty83 : T 83 = some { und := TypeDesc.tuple #[36, 27], size := 1, bytes := 0, zero := Value.tuple #[Value.int IntKind.u16 0, Value.int IntKind.i64 0], eqg := false, stood := false }
  ty85 : T 85 = some { und := TypeDesc.tuple #[29, 27], size := 1, bytes := 0, zero := Value.tuple #[Value.float FloatKind.f64 0, Value.int IntKind.i64 0], eqg := false, stood := false }
  ty87 : T 87 = some { und := TypeDesc.tuple #[9, 27], size := 1, bytes := 0, zero := Value.tuple { toList := [Value.string { data := #[] }, Value.int IntKind.i64 0] }, eqg := false, stood := false }
  ty90 : T 90 = some { und := TypeDesc.tuple #[5, 27], size := 1, bytes := 0, zero := Value.tuple #[Value.int IntKind.u8 0, Value.int IntKind.i64 0], eqg := false, stood := false }
  ty92 : T 92 = some { und := TypeDesc.tuple #[28, 3], size := 1, bytes := 0, zero := Value.tuple #[Value.int IntKind.u64 0, Value.int IntKind.i64 0], eqg := false, stood := false }
  ty94 : T 94 = some { und := TypeDesc.tuple #[38, 27], size := 1, bytes := 0, zero := Value.tuple #[Value.int IntKind.u32 0, Value.int IntKind.i64 0], eqg := false, stood := false }
  ty96 : T 96 = some { und := TypeDesc.tuple #[28, 27], size := 1, bytes := 0, zero := Value.tuple #[Value.int IntKind.u64 0, Value.int IntKind.i64 0], eqg := false, stood := false }
  ty100 : T 100 = some { und := TypeDesc.tuple #[30, 27], size := 1, bytes := 0, zero := Value.tuple #[Value.float FloatKind.f32 0, Value.int IntKind.i64 0], eqg := false, stood := false }
  ty104 : T 104 = some { und := TypeDesc.tuple #[9, 3], size := 1, bytes := 0, zero := Value.tuple { toList := [Value.string { data := #[] }, Value.int IntKind.i64 0] }, eqg := false, stood := false }
  ty106 : T 106 = some { und := TypeDesc.pointer 108, size := 1, bytes := 8, zero := Value.pointer none, eqg := false, stood := false }
  ty108 : T 108 = some { und := TypeDesc.struct #[{ name := "addr", type := 106, offset := 0, embedded := false, tag := "", pkgPath := "strings", byteOffset := 0 }, { name := "buf", type := 24, offset := 1, embedded := false, tag := "", pkgPath := "strings", byteOffset := 8 }], size := 2, bytes := 32, zero := Value.agg #[Value.pointer none, Value.slice none 0 0], eqg := false, stood := false }
  ty110 : T 110 = some { und := TypeDesc.interface #[("Error", 112)], size := 1, bytes := 16, zero := Value.nilIface, eqg := true, stood := false }
  ty116 : T 116 = some { und := TypeDesc.array 256 5, size := 256, bytes := 256, zero := Value.agg #[Value.int IntKind.u8 0, Value.int IntKind.u8 0, Value.int IntKind.u8 0, Value.int IntKind.u8 0, Value.int IntKind.u8 0, Value.int IntKind.u8 0, Value.int IntKind.u8 0, Value.int IntKind.u8 0, Value.int IntKind.u8 0, Value.int IntKind.u8 0, Value.int IntKind.u8 0, Value.int IntKind.u8 0, Value.int IntKind.u8 0, Value.int IntKind.u8 0, Value.int IntKind.u8 0, Value.int IntKind.u8 0, Value.int IntKind.u8 0, Value.int IntKind.u8 0, Value.int IntKind.u8 0, Value.int IntKind.u8 0, Value.int IntKind.u8 0, Value.int IntKind.u8 0, Value.int IntKind.u8 0, Value.int IntKind.u8 0, Value.int IntKind.u8 0, Value.int IntKind.u8 0, Value.int IntKind.u8 0, Value.int IntKind.u8 0, Value.int IntKind.u8 0, Value.int IntKind.u8 0, Value.int IntKind.u8 0, Value.int IntKind.u8 0, Value.int IntKind.u8 0, Value.int IntKind.u8 0, Value.int IntKind.u8 0, Value.int IntKind.u8 0, Value.int IntKind.u8 0, Value.int IntKind.u8 0, Value.int IntKind.u8 0, Value.int IntKind.u8 0, Value.int IntKind.u8 0, Value.int IntKind.u8 0, Value.int IntKind.u8 0, Value.int IntKind.u8 0, Value.int IntKind.u8 0, Value.int IntKind.u8 0, Value.int IntKind.u8 0, Value.int IntKind.u8 0, Value.int IntKind.u8 0, Value.int IntKind.u8 0, Value.int IntKind.u8 0, Value.int IntKind.u8 0, Value.int IntKind.u8 0, Value.int IntKind.u8 0, Value.int IntKind.u8 0, Value.int IntKind.u8 0, Value.int IntKind.u8 0, Value.int IntKind.u8 0, Value.int IntKind.u8 0, Value.int IntKind.u8 0, Value.int IntKind.u8 0, Value.int IntKind.u8 0, Value.int IntKind.u8 0, Value.int IntKind.u8 0, Value.int IntKind.u8 0, Value.int IntKind.u8 0, Value.int IntKind.u8 0, Value.int IntKind.u8 0, Value.int IntKind.u8 0, Value.int IntKind.u8 0, Value.int IntKind.u8 0, Value.int IntKind.u8 0, Value.int IntKind.u8 0, Value.int IntKind.u8 0, Value.int IntKind.u8 0, Value.int IntKind.u8 0, Value.int IntKind.u8 0, Value.int IntKind.u8 0, Value.int IntKind.u8 0, Value.int IntKind.u8 0, Value.int IntKind.u8 0, Value.int IntKind.u8 0, Value.int IntKind.u8 0, Value.int IntKind.u8 0, Value.int IntKind.u8 0, Value.int IntKind.u8 0, Value.int IntKind.u8 0, Value.int IntKind.u8 0, Value.int IntKind.u8 0, Value.int IntKind.u8 0, Value.int IntKind.u8 0, Value.int IntKind.u8 0, Value.int IntKind.u8 0, Value.int IntKind.u8 0, Value.int IntKind.u8 0, Value.int IntKind.u8 0, Value.int IntKind.u8 0, Value.int IntKind.u8 0, Value.int IntKind.u8 0, Value.int IntKind.u8 0, Value.int IntKind.u8 0, Value.int IntKind.u8 0, Value.int IntKind.u8 0, Value.int IntKind.u8 0, Value.int IntKind.u8 0, Value.int IntKind.u8 0, Value.int IntKind.u8 0, Value.int IntKind.u8 0, Value.int IntKind.u8 0, Value.int IntKind.u8 0, Value.int IntKind.u8 0, Value.int IntKind.u8 0, Value.int IntKind.u8 0, Value.int IntKind.u8 0, Value.int IntKind.u8 0, Value.int IntKind.u8 0, Value.int IntKind.u8 0, Value.int IntKind.u8 0, Value.int IntKind.u8 0, Value.int IntKind.u8 0, Value.int IntKind.u8 0, Value.int IntKind.u8 0, Value.int IntKind.u8 0, Value.int IntKind.u8 0, Value.int IntKind.u8 0, Value.int IntKind.u8 0, Value.int IntKind.u8 0, Value.int IntKind.u8 0, Value.int IntKind.u8 0, Value.int IntKind.u8 0, Value.int IntKind.u8 0, Value.int IntKind.u8 0, Value.int IntKind.u8 0, Value.int IntKind.u8 0, Value.int IntKind.u8 0, Value.int IntKind.u8 0, Value.int IntKind.u8 0, Value.int IntKind.u8 0, Value.int IntKind.u8 0, Value.int IntKind.u8 0, Value.int IntKind.u8 0, Value.int IntKind.u8 0, Value.int IntKind.u8 0, Value.int IntKind.u8 0, Value.int IntKind.u8 0, Value.int IntKind.u8 0, Value.int IntKind.u8 0, Value.int IntKind.u8 0, Value.int IntKind.u8 0, Value.int IntKind.u8 0, Value.int IntKind.u8 0, Value.int IntKind.u8 0, Value.int IntKind.u8 0, Value.int IntKind.u8 0, Value.int IntKind.u8 0, Value.int IntKind.u8 0, Value.int IntKind.u8 0, Value.int IntKind.u8 0, Value.int IntKind.u8 0, Value.int IntKind.u8 0, Value.int IntKind.u8 0, Value.int IntKind.u8 0, Value.int IntKind.u8 0, Value.int IntKind.u8 0, Value.int IntKind.u8 0, Value.int IntKind.u8 0, Value.int IntKind.u8 0, Value.int IntKind.u8 0, Value.int IntKind.u8 0, Value.int IntKind.u8 0, Value.int IntKind.u8 0, Value.int IntKind.u8 0, Value.int IntKind.u8 0, Value.int IntKind.u8 0, Value.int IntKind.u8 0, Value.int IntKind.u8 0, Value.int IntKind.u8 0, Value.int IntKind.u8 0, Value.int IntKind.u8 0, Value.int IntKind.u8 0, Value.int IntKind.u8 0, Value.int IntKind.u8 0, Value.int IntKind.u8 0, Value.int IntKind.u8 0, Value.int IntKind.u8 0, Value.int IntKind.u8 0, Value.int IntKind.u8 0, Value.int IntKind.u8 0, Value.int IntKind.u8 0, Value.int IntKind.u8 0, Value.int IntKind.u8 0, Value.int IntKind.u8 0, Value.int IntKind.u8 0, Value.int IntKind.u8 0, Value.int IntKind.u8 0, Value.int IntKind.u8 0, Value.int IntKind.u8 0, Value.int IntKind.u8 0, Value.int IntKind.u8 0, Value.int IntKind.u8 0, Value.int IntKind.u8 0, Value.int IntKind.u8 0, Value.int IntKind.u8 0, Value.int IntKind.u8 0, Value.int IntKind.u8 0, Value.int IntKind.u8 0, Value.int IntKind.u8 0, Value.int IntKind.u8 0, Value.int IntKind.u8 0, Value.int IntKind.u8 0, Value.int IntKind.u8 0, Value.int IntKind.u8 0, Value.int IntKind.u8 0, Value.int IntKind.u8 0, Value.int IntKind.u8 0, Value.int IntKind.u8 0, Value.int IntKind.u8 0, Value.int IntKind.u8 0, Value.int IntKind.u8 0, Value.int IntKind.u8 0, Value.int IntKind.u8 0, Value.int IntKind.u8 0, Value.int IntKind.u8 0, Value.int IntKind.u8 0, Value.int IntKind.u8 0, Value.int IntKind.u8 0, Value.int IntKind.u8 0, Value.int IntKind.u8 0, Value.int IntKind.u8 0, Value.int IntKind.u8 0, Value.int IntKind.u8 0, Value.int IntKind.u8 0, Value.int IntKind.u8 0, Value.int IntKind.u8 0, Value.int IntKind.u8 0, Value.int IntKind.u8 0, Value.int IntKind.u8 0, Value.int IntKind.u8 0, Value.int IntKind.u8 0, Value.int IntKind.u8 0, Value.int IntKind.u8 0, Value.int IntKind.u8 0, Value.int IntKind.u8 0, Value.int IntKind.u8 0, Value.int IntKind.u8 0, Value.int IntKind.u8 0, Value.int IntKind.u8 0, Value.int IntKind.u8 0, Value.int IntKind.u8 0, Value.int IntKind.u8 0, Value.int IntKind.u8 0, Value.int IntKind.u8 0, Value.int IntKind.u8 0, Value.int IntKind.u8 0, Value.int IntKind.u8 0, Value.int IntKind.u8 0], eqg := false, stood := false }
  ty118 : T 118 = some { und := TypeDesc.struct #[{ name := "lo", type := 5, offset := 0, embedded := false, tag := "", pkgPath := "unicode/utf8", byteOffset := 0 }, { name := "hi", type := 5, offset := 1, embedded := false, tag := "", pkgPath := "unicode/utf8", byteOffset := 1 }], size := 2, bytes := 2, zero := Value.agg #[Value.int IntKind.u8 0, Value.int IntKind.u8 0], eqg := false, stood := false }
  ty119 : T 119 = some { und := TypeDesc.array 16 118, size := 32, bytes := 32, zero := Value.agg #[Value.int IntKind.u8 0, Value.int IntKind.u8 0, Value.int IntKind.u8 0, Value.int IntKind.u8 0, Value.int IntKind.u8 0, Value.int IntKind.u8 0, Value.int IntKind.u8 0, Value.int IntKind.u8 0, Value.int IntKind.u8 0, Value.int IntKind.u8 0, Value.int IntKind.u8 0, Value.int IntKind.u8 0, Value.int IntKind.u8 0, Value.int IntKind.u8 0, Value.int IntKind.u8 0, Value.int IntKind.u8 0, Value.int IntKind.u8 0, Value.int IntKind.u8 0, Value.int IntKind.u8 0, Value.int IntKind.u8 0, Value.int IntKind.u8 0, Value.int IntKind.u8 0, Value.int IntKind.u8 0, Value.int IntKind.u8 0, Value.int IntKind.u8 0, Value.int IntKind.u8 0, Value.int IntKind.u8 0, Value.int IntKind.u8 0, Value.int IntKind.u8 0, Value.int IntKind.u8 0, Value.int IntKind.u8 0, Value.int IntKind.u8 0], eqg := false, stood := false }
  ty123 : T 123 = some { und := TypeDesc.pointer 5, size := 1, bytes := 8, zero := Value.pointer none, eqg := false, stood := false }
  ty129 : T 129 = some { und := TypeDesc.unsafePointer, size := 1, bytes := 8, zero := Value.pointer none, eqg := false, stood := false }

theorem types : Ty T where
  ty0 := by kernel_rfl
  ty1 := by kernel_rfl
  ty2 := by kernel_rfl
  ty3 := by kernel_rfl
  ty4 := by kernel_rfl
  ty5 := by kernel_rfl
  ty9 := by kernel_rfl
  ty12 := by kernel_rfl
  ty21 := by kernel_rfl
  ty22 := by kernel_rfl
  ty23 := by kernel_rfl
  ty24 := by kernel_rfl
  ty26 := by kernel_rfl
  ty27 := by kernel_rfl
  ty28 := by kernel_rfl
  ty29 := by kernel_rfl
  ty30 := by kernel_rfl
  ty32 := by kernel_rfl
  ty36 := by kernel_rfl
  ty38 := by kernel_rfl
  ty45 := by kernel_rfl
  ty50 := by kernel_rfl
  ty53 := by kernel_rfl
  ty60 := by kernel_rfl
  ty61 := by kernel_rfl
  ty63 := by kernel_rfl
  ty65 := by kernel_rfl
  ty71 := by kernel_rfl
  ty79 := by kernel_rfl
  ty83 := by kernel_rfl
  ty85 := by kernel_rfl
  ty87 := by kernel_rfl
  ty90 := by kernel_rfl
  ty92 := by kernel_rfl
  ty94 := by kernel_rfl
  ty96 := by kernel_rfl
  ty100 := by kernel_rfl
  ty104 := by kernel_rfl
  ty106 := by kernel_rfl
  ty108 := by kernel_rfl
  ty110 := by kernel_rfl
  ty116 := by kernel_rfl
  ty118 := by kernel_rfl
  ty119 := by kernel_rfl
  ty123 := by kernel_rfl
  ty129 := by kernel_rfl

set_option linter.defProp false in
set_option maxRecDepth 10000 in
def Ty.all {T : Tab} (hT : Ty T) := And.intro hT.ty0 (And.intro hT.ty1 (And.intro hT.ty2 (And.intro hT.ty3 (And.intro hT.ty4 (And.intro hT.ty5 (And.intro hT.ty9 (And.intro hT.ty12 (And.intro hT.ty21 (And.intro hT.ty22 (And.intro hT.ty23 (And.intro hT.ty24 (And.intro hT.ty26 (And.intro hT.ty27 (And.intro hT.ty28 (And.intro hT.ty29 (And.intro hT.ty30 (And.intro hT.ty32 (And.intro hT.ty36 (And.intro hT.ty38 (And.intro hT.ty45 (And.intro hT.ty50 (And.intro hT.ty53 (And.intro hT.ty60 (And.intro hT.ty61 (And.intro hT.ty63 (And.intro hT.ty65 (And.intro hT.ty71 (And.intro hT.ty79 (And.intro hT.ty83 (And.intro hT.ty85 (And.intro hT.ty87 (And.intro hT.ty90 (And.intro hT.ty92 (And.intro hT.ty94 (And.intro hT.ty96 (And.intro hT.ty100 (And.intro hT.ty104 (And.intro hT.ty106 (And.intro hT.ty108 (And.intro hT.ty110 (And.intro hT.ty116 (And.intro hT.ty118 (And.intro hT.ty119 (And.intro hT.ty123 (hT.ty129)))))))))))))))))))))))))))))))))))))))))))))

/-- A function of this program, by its body. -/
theorem fw {M : Addr → Option AV} {k : FuncId} {fn : Func} {c : Code} {args : List AV} {H : Heap} {Q : AV → Heap → Prop} (hf : Tryd.prog.funcs[k]? = some fn) (hname : (fn.name == "runtime.NumGoroutine") = false) (hb : fn.body = some c) (hr : codeB T c = true)
    (h : ∀ C L T, Ty T → Wk Tryd.prog T M C L → xC C L T M c (args ++ List.replicate (fn.ntmps - args.length) (.tup [])) H (fun o e h => match o with | .exit _ => False | .normal => ∃ l, resA T M e h fn.results.toList = some l ∧ Q (resultA l) h | .ret => ∃ l, resA T M e h fn.results.toList = some l ∧ Q (resultA l) h) .mk) : SemF Tryd.prog M k args H Q :=
  fn_way sound hf hname hb hr fun C L hW => h C L T types hW

end Go.Proofs.YtnmignkabcblgaaDoor.C
