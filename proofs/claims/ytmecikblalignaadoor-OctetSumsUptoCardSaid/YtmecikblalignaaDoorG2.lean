/- Part of a claim: the kinds of value that this program names, by number; a function by its body. (Printed by gen_types.py.) -/
import Derived.Test.YtmecikblalignaaDoorG1
set_option linter.unusedSimpArgs false
set_option linter.unusedVariables false
namespace Go.Proofs.YtmecikblalignaaDoor.B
open Go Go.RowKit Go.Proofs.YtmecikblalignaaDoor.E

/-- What the texts ask of the table of kinds. -/
structure Ty (T : Tab) : Prop where
  ty0 : T 0 = some { und := TypeDesc.tuple #[], size := 1, bytes := 0, zero := Value.tuple #[], eqg := false, stood := false }
  ty2 : T 2 = some { und := TypeDesc.int IntKind.i64, size := 1, bytes := 8, zero := Value.int IntKind.i64 0, eqg := false, stood := false }
  ty3 : T 3 = some { und := TypeDesc.int IntKind.i64, size := 1, bytes := 8, zero := Value.int IntKind.i64 0, eqg := false, stood := false }
  ty4 : T 4 = some { und := TypeDesc.bool, size := 1, bytes := 1, zero := Value.bool false, eqg := false, stood := false }
  ty5 : T 5 = some { und := TypeDesc.int IntKind.u8, size := 1, bytes := 1, zero := Value.int IntKind.u8 0, eqg := false, stood := false }
  ty6 : T 6 = some { und := TypeDesc.int IntKind.u8, size := 1, bytes := 1, zero := Value.int IntKind.u8 0, eqg := false, stood := false }
  ty7 : T 7 = some { und := TypeDesc.struct #[{ name := "x", type := 2, offset := 0, embedded := false, tag := "", pkgPath := "runtime", byteOffset := 0 }, { name := "y", type := 3, offset := 1, embedded := false, tag := "", pkgPath := "runtime", byteOffset := 8 }, { name := "signed", type := 4, offset := 2, embedded := false, tag := "", pkgPath := "runtime", byteOffset := 16 }, { name := "code", type := 6, offset := 3, embedded := false, tag := "", pkgPath := "runtime", byteOffset := 17 }], size := 4, bytes := 24, zero := Value.agg #[Value.int IntKind.i64 0, Value.int IntKind.i64 0, Value.bool false, Value.int IntKind.u8 0], eqg := false, stood := false }
  ty8 : T 8 = some { und := TypeDesc.struct #[{ name := "x", type := 2, offset := 0, embedded := false, tag := "", pkgPath := "runtime", byteOffset := 0 }, { name := "y", type := 3, offset := 1, embedded := false, tag := "", pkgPath := "runtime", byteOffset := 8 }, { name := "signed", type := 4, offset := 2, embedded := false, tag := "", pkgPath := "runtime", byteOffset := 16 }, { name := "code", type := 6, offset := 3, embedded := false, tag := "", pkgPath := "runtime", byteOffset := 17 }], size := 4, bytes := 24, zero := Value.agg #[Value.int IntKind.i64 0, Value.int IntKind.i64 0, Value.bool false, Value.int IntKind.u8 0], eqg := false, stood := false }
  ty9 : T 9 = some { und := TypeDesc.string, size := 1, bytes := 16, zero := Value.string { data := #[] }, eqg := false, stood := false }
  ty10 : T 10 = some { und := TypeDesc.string, size := 1, bytes := 16, zero := Value.string { data := #[] }, eqg := false, stood := false }
  ty11 : T 11 = some { und := TypeDesc.string, size := 1, bytes := 16, zero := Value.string { data := #[] }, eqg := false, stood := false }
  ty12 : T 12 = some { und := TypeDesc.int IntKind.u64, size := 1, bytes := 8, zero := Value.int IntKind.u64 0, eqg := false, stood := false }
  ty13 : T 13 = some { und := TypeDesc.struct #[{ name := "msg", type := 9, offset := 0, embedded := false, tag := "", pkgPath := "runtime", byteOffset := 0 }, { name := "addr", type := 12, offset := 1, embedded := false, tag := "", pkgPath := "runtime", byteOffset := 16 }], size := 2, bytes := 24, zero := Value.agg { toList := [Value.string { data := #[] }, Value.int IntKind.u64 0] }, eqg := false, stood := true }
  ty14 : T 14 = some { und := TypeDesc.struct #[{ name := "msg", type := 9, offset := 0, embedded := false, tag := "", pkgPath := "runtime", byteOffset := 0 }, { name := "addr", type := 12, offset := 1, embedded := false, tag := "", pkgPath := "runtime", byteOffset := 16 }], size := 2, bytes := 24, zero := Value.agg { toList := [Value.string { data := #[] }, Value.int IntKind.u64 0] }, eqg := false, stood := true }
  ty15 : T 15 = some { und := TypeDesc.pointer 96, size := 1, bytes := 8, zero := Value.pointer none, eqg := false, stood := false }
  ty16 : T 16 = some { und := TypeDesc.pointer 99, size := 1, bytes := 8, zero := Value.pointer none, eqg := false, stood := false }
  ty17 : T 17 = some { und := TypeDesc.pointer 107, size := 1, bytes := 8, zero := Value.pointer none, eqg := false, stood := false }
  ty18 : T 18 = some { und := TypeDesc.struct #[{ name := "typ", type := 17, offset := 0, embedded := false, tag := "", pkgPath := "internal/runtime/maps", byteOffset := 0 }], size := 1, bytes := 8, zero := Value.agg #[Value.pointer none], eqg := false, stood := true }
  ty19 : T 19 = some { und := TypeDesc.struct #[{ name := "typ", type := 17, offset := 0, embedded := false, tag := "", pkgPath := "internal/runtime/maps", byteOffset := 0 }], size := 1, bytes := 8, zero := Value.agg #[Value.pointer none], eqg := false, stood := true }
  ty20 : T 20 = some { und := TypeDesc.interface #[], size := 1, bytes := 16, zero := Value.nilIface, eqg := false, stood := false }
  ty21 : T 21 = some { und := TypeDesc.int IntKind.i32, size := 1, bytes := 4, zero := Value.int IntKind.i32 0, eqg := false, stood := false }
  ty22 : T 22 = some { und := TypeDesc.slice 23, size := 1, bytes := 24, zero := Value.slice none 0 0, eqg := false, stood := false }
  ty23 : T 23 = some { und := TypeDesc.slice 5, size := 1, bytes := 24, zero := Value.slice none 0 0, eqg := false, stood := false }
  ty25 : T 25 = some { und := TypeDesc.int IntKind.u32, size := 1, bytes := 4, zero := Value.int IntKind.u32 0, eqg := false, stood := false }
  ty28 : T 28 = some { und := TypeDesc.int IntKind.i64, size := 1, bytes := 8, zero := Value.int IntKind.i64 0, eqg := false, stood := false }
  ty29 : T 29 = some { und := TypeDesc.tuple #[23, 28], size := 1, bytes := 0, zero := Value.tuple #[Value.slice none 0 0, Value.int IntKind.i64 0], eqg := false, stood := false }
  ty31 : T 31 = some { und := TypeDesc.tuple #[23, 3], size := 1, bytes := 0, zero := Value.tuple #[Value.slice none 0 0, Value.int IntKind.i64 0], eqg := false, stood := false }
  ty41 : T 41 = some { und := TypeDesc.int IntKind.u64, size := 1, bytes := 8, zero := Value.int IntKind.u64 0, eqg := false, stood := false }
  ty42 : T 42 = some { und := TypeDesc.struct #[{ name := "B", type := 23, offset := 0, embedded := false, tag := "", pkgPath := "", byteOffset := 0 }], size := 1, bytes := 24, zero := Value.agg #[Value.slice none 0 0], eqg := false, stood := false }
  ty43 : T 43 = some { und := TypeDesc.struct #[{ name := "B", type := 23, offset := 0, embedded := false, tag := "", pkgPath := "", byteOffset := 0 }], size := 1, bytes := 24, zero := Value.agg #[Value.slice none 0 0], eqg := false, stood := false }
  ty46 : T 46 = some { und := TypeDesc.int IntKind.u64, size := 1, bytes := 8, zero := Value.int IntKind.u64 0, eqg := false, stood := false }
  ty47 : T 47 = some { und := TypeDesc.pointer 43, size := 1, bytes := 8, zero := Value.pointer none, eqg := false, stood := false }
  ty49 : T 49 = some { und := TypeDesc.int IntKind.u16, size := 1, bytes := 2, zero := Value.int IntKind.u16 0, eqg := false, stood := false }
  ty51 : T 51 = some { und := TypeDesc.float FloatKind.f64, size := 1, bytes := 8, zero := Value.float FloatKind.f64 0, eqg := false, stood := false }
  ty54 : T 54 = some { und := TypeDesc.pointer 78, size := 1, bytes := 8, zero := Value.pointer none, eqg := false, stood := false }
  ty56 : T 56 = some { und := TypeDesc.tuple #[49, 28], size := 1, bytes := 0, zero := Value.tuple #[Value.int IntKind.u16 0, Value.int IntKind.i64 0], eqg := false, stood := false }
  ty58 : T 58 = some { und := TypeDesc.tuple #[51, 28], size := 1, bytes := 0, zero := Value.tuple #[Value.float FloatKind.f64 0, Value.int IntKind.i64 0], eqg := false, stood := false }
  ty60 : T 60 = some { und := TypeDesc.tuple #[9, 28], size := 1, bytes := 0, zero := Value.tuple { toList := [Value.string { data := #[] }, Value.int IntKind.i64 0] }, eqg := false, stood := false }
  ty64 : T 64 = some { und := TypeDesc.pointer 66, size := 1, bytes := 8, zero := Value.pointer none, eqg := false, stood := false }
  ty65 : T 65 = some { und := TypeDesc.struct #[{ name := "addr", type := 64, offset := 0, embedded := false, tag := "", pkgPath := "strings", byteOffset := 0 }, { name := "buf", type := 23, offset := 1, embedded := false, tag := "", pkgPath := "strings", byteOffset := 8 }], size := 2, bytes := 32, zero := Value.agg #[Value.pointer none, Value.slice none 0 0], eqg := false, stood := false }
  ty66 : T 66 = some { und := TypeDesc.struct #[{ name := "addr", type := 64, offset := 0, embedded := false, tag := "", pkgPath := "strings", byteOffset := 0 }, { name := "buf", type := 23, offset := 1, embedded := false, tag := "", pkgPath := "strings", byteOffset := 8 }], size := 2, bytes := 32, zero := Value.agg #[Value.pointer none, Value.slice none 0 0], eqg := false, stood := false }
  ty67 : T 67 = some { und := TypeDesc.interface #[("Error", 70)], size := 1, bytes := 16, zero := Value.nilIface, eqg := true, stood := false }
  ty68 : T 68 = some { und := TypeDesc.interface #[("Error", 70)], size := 1, bytes := 16, zero := Value.nilIface, eqg := true, stood := false }
  ty77 : T 77 = some { und := TypeDesc.struct #[{ name := "made", type := 4, offset := 0, embedded := false, tag := "", pkgPath := "phasor/octet", byteOffset := 0 }, { name := "left", type := 23, offset := 1, embedded := false, tag := "", pkgPath := "phasor/octet", byteOffset := 8 }], size := 2, bytes := 32, zero := Value.agg #[Value.bool false, Value.slice none 0 0], eqg := false, stood := false }
  ty78 : T 78 = some { und := TypeDesc.struct #[{ name := "made", type := 4, offset := 0, embedded := false, tag := "", pkgPath := "phasor/octet", byteOffset := 0 }, { name := "left", type := 23, offset := 1, embedded := false, tag := "", pkgPath := "phasor/octet", byteOffset := 8 }], size := 2, bytes := 32, zero := Value.agg #[Value.bool false, Value.slice none 0 0], eqg := false, stood := false }
  ty79 : T 79 = some { und := TypeDesc.tuple #[46, 28], size := 1, bytes := 0, zero := Value.tuple #[Value.int IntKind.u64 0, Value.int IntKind.i64 0], eqg := false, stood := false }
  ty82 : T 82 = some { und := TypeDesc.pointer 5, size := 1, bytes := 8, zero := Value.pointer none, eqg := false, stood := false }
  ty88 : T 88 = some { und := TypeDesc.array 256 5, size := 256, bytes := 256, zero := Value.agg #[Value.int IntKind.u8 0, Value.int IntKind.u8 0, Value.int IntKind.u8 0, Value.int IntKind.u8 0, Value.int IntKind.u8 0, Value.int IntKind.u8 0, Value.int IntKind.u8 0, Value.int IntKind.u8 0, Value.int IntKind.u8 0, Value.int IntKind.u8 0, Value.int IntKind.u8 0, Value.int IntKind.u8 0, Value.int IntKind.u8 0, Value.int IntKind.u8 0, Value.int IntKind.u8 0, Value.int IntKind.u8 0, Value.int IntKind.u8 0, Value.int IntKind.u8 0, Value.int IntKind.u8 0, Value.int IntKind.u8 0, Value.int IntKind.u8 0, Value.int IntKind.u8 0, Value.int IntKind.u8 0, Value.int IntKind.u8 0, Value.int IntKind.u8 0, Value.int IntKind.u8 0, Value.int IntKind.u8 0, Value.int IntKind.u8 0, Value.int IntKind.u8 0, Value.int IntKind.u8 0, Value.int IntKind.u8 0, Value.int IntKind.u8 0, Value.int IntKind.u8 0, Value.int IntKind.u8 0, Value.int IntKind.u8 0, Value.int IntKind.u8 0, Value.int IntKind.u8 0, Value.int IntKind.u8 0, Value.int IntKind.u8 0, Value.int IntKind.u8 0, Value.int IntKind.u8 0, Value.int IntKind.u8 0, Value.int IntKind.u8 0, Value.int IntKind.u8 0, Value.int IntKind.u8 0, Value.int IntKind.u8 0, Value.int IntKind.u8 0, Value.int IntKind.u8 0, Value.int IntKind.u8 0, Value.int IntKind.u8 0, Value.int IntKind.u8 0, Value.int IntKind.u8 0, Value.int IntKind.u8 0, Value.int IntKind.u8 0, Value.int IntKind.u8 0, Value.int IntKind.u8 0, Value.int IntKind.u8 0, Value.int IntKind.u8 0, Value.int IntKind.u8 0, Value.int IntKind.u8 0, Value.int IntKind.u8 0, Value.int IntKind.u8 0, Value.int IntKind.u8 0, Value.int IntKind.u8 0, Value.int IntKind.u8 0, Value.int IntKind.u8 0, Value.int IntKind.u8 0, Value.int IntKind.u8 0, Value.int IntKind.u8 0, Value.int IntKind.u8 0, Value.int IntKind.u8 0, Value.int IntKind.u8 0, Value.int IntKind.u8 0, Value.int IntKind.u8 0, Value.int IntKind.u8 0, Value.int IntKind.u8 0, Value.int IntKind.u8 0, Value.int IntKind.u8 0, Value.int IntKind.u8 0, Value.int IntKind.u8 0, Value.int IntKind.u8 0, Value.int IntKind.u8 0, Value.int IntKind.u8 0, Value.int IntKind.u8 0, Value.int IntKind.u8 0, Value.int IntKind.u8 0, Value.int IntKind.u8 0, Value.int IntKind.u8 0, Value.int IntKind.u8 0, Value.int IntKind.u8 0, Value.int IntKind.u8 0, Value.int IntKind.u8 0, Value.int IntKind.u8 0, Value.int IntKind.u8 0, Value.int IntKind.u8 0, Value.int IntKind.u8 0, Value.int IntKind.u8 0, Value.int IntKind.u8 0, Value.int IntKind.u8 0, Value.int IntKind.u8 0, Value.int IntKind.u8 0, Value.int IntKind.u8 0, Value.int IntKind.u8 0, Value.int IntKind.u8 0, Value.int IntKind.u8 0, Value.int IntKind.u8 0, Value.int IntKind.u8 0, Value.int IntKind.u8 0, Value.int IntKind.u8 0, Value.int IntKind.u8 0, Value.int IntKind.u8 0, Value.int IntKind.u8 0, Value.int IntKind.u8 0, Value.int IntKind.u8 0, Value.int IntKind.u8 0, Value.int IntKind.u8 0, Value.int IntKind.u8 0, Value.int IntKind.u8 0, Value.int IntKind.u8 0, Value.int IntKind.u8 0, Value.int IntKind.u8 0, Value.int IntKind.u8 0, Value.int IntKind.u8 0, Value.int IntKind.u8 0, Value.int IntKind.u8 0, Value.int IntKind.u8 0, Value.int IntKind.u8 0, Value.int IntKind.u8 0, Value.int IntKind.u8 0, Value.int IntKind.u8 0, Value.int IntKind.u8 0, Value.int IntKind.u8 0, Value.int IntKind.u8 0, Value.int IntKind.u8 0, Value.int IntKind.u8 0, Value.int IntKind.u8 0, Value.int IntKind.u8 0, Value.int IntKind.u8 0, Value.int IntKind.u8 0, Value.int IntKind.u8 0, Value.int IntKind.u8 0, Value.int IntKind.u8 0, Value.int IntKind.u8 0, Value.int IntKind.u8 0, Value.int IntKind.u8 0, Value.int IntKind.u8 0, Value.int IntKind.u8 0, Value.int IntKind.u8 0, Value.int IntKind.u8 0, Value.int IntKind.u8 0, Value.int IntKind.u8 0, Value.int IntKind.u8 0, Value.int IntKind.u8 0, Value.int IntKind.u8 0, Value.int IntKind.u8 0, Value.int IntKind.u8 0, Value.int IntKind.u8 0, Value.int IntKind.u8 0, Value.int IntKind.u8 0, Value.int IntKind.u8 0, Value.int IntKind.u8 0, Value.int IntKind.u8 0, Value.int IntKind.u8 0, Value.int IntKind.u8 0, Value.int IntKind.u8 0, Value.int IntKind.u8 0, Value.int IntKind.u8 0, Value.int IntKind.u8 0, Value.int IntKind.u8 0, Value.int IntKind.u8 0, Value.int IntKind.u8 0, Value.int IntKind.u8 0, Value.int IntKind.u8 0, Value.int IntKind.u8 0, Value.int IntKind.u8 0, Value.int IntKind.u8 0, Value.int IntKind.u8 0, Value.int IntKind.u8 0, Value.int IntKind.u8 0, Value.int IntKind.u8 0, Value.int IntKind.u8 0, Value.int IntKind.u8 0, Value.int IntKind.u8 0, Value.int IntKind.u8 0, Value.int IntKind.u8 0, Value.int IntKind.u8 0, Value.int IntKind.u8 0, Value.int IntKind.u8 0, Value.int IntKind.u8 0, Value.int IntKind.u8 0, Value.int IntKind.u8 0, Value.int IntKind.u8 0, Value.int IntKind.u8 0, Value.int IntKind.u8 0, Value.int IntKind.u8 0, Value.int IntKind.u8 0, Value.int IntKind.u8 0, Value.int IntKind.u8 0, Value.int IntKind.u8 0, Value.int IntKind.u8 0, Value.int IntKind.u8 0, Value.int IntKind.u8 0, Value.int IntKind.u8 0, Value.int IntKind.u8 0, Value.int IntKind.u8 0, Value.int IntKind.u8 0, Value.int IntKind.u8 0, Value.int IntKind.u8 0, Value.int IntKind.u8 0, Value.int IntKind.u8 0, Value.int IntKind.u8 0, Value.int IntKind.u8 0, Value.int IntKind.u8 0, Value.int IntKind.u8 0, Value.int IntKind.u8 0, Value.int IntKind.u8 0, Value.int IntKind.u8 0, Value.int IntKind.u8 0, Value.int IntKind.u8 0, Value.int IntKind.u8 0, Value.int IntKind.u8 0, Value.int IntKind.u8 0, Value.int IntKind.u8 0, Value.int IntKind.u8 0, Value.int IntKind.u8 0, Value.int IntKind.u8 0, Value.int IntKind.u8 0, Value.int IntKind.u8 0, Value.int IntKind.u8 0, Value.int IntKind.u8 0, Value.int IntKind.u8 0, Value.int IntKind.u8 0, Value.int IntKind.u8 0, Value.int IntKind.u8 0, Value.int IntKind.u8 0, Value.int IntKind.u8 0, Value.int IntKind.u8 0, Value.int IntKind.u8 0, Value.int IntKind.u8 0, Value.int IntKind.u8 0, Value.int IntKind.u8 0, Value.int IntKind.u8 0, Value.int IntKind.u8 0, Value.int IntKind.u8 0, Value.int IntKind.u8 0, Value.int IntKind.u8 0, Value.int IntKind.u8 0, Value.int IntKind.u8 0, Value.int IntKind.u8 0, Value.int IntKind.u8 0, Value.int IntKind.u8 0, Value.int IntKind.u8 0, Value.int IntKind.u8 0, Value.int IntKind.u8 0, Value.int IntKind.u8 0, Value.int IntKind.u8 0], eqg := false, stood := false }
  ty89 : T 89 = some { und := TypeDesc.struct #[{ name := "lo", type := 5, offset := 0, embedded := false, tag := "", pkgPath := "unicode/utf8", byteOffset := 0 }, { name := "hi", type := 5, offset := 1, embedded := false, tag := "", pkgPath := "unicode/utf8", byteOffset := 1 }], size := 2, bytes := 2, zero := Value.agg #[Value.int IntKind.u8 0, Value.int IntKind.u8 0], eqg := false, stood := false }
  ty90 : T 90 = some { und := TypeDesc.struct #[{ name := "lo", type := 5, offset := 0, embedded := false, tag := "", pkgPath := "unicode/utf8", byteOffset := 0 }, { name := "hi", type := 5, offset := 1, embedded := false, tag := "", pkgPath := "unicode/utf8", byteOffset := 1 }], size := 2, bytes := 2, zero := Value.agg #[Value.int IntKind.u8 0, Value.int IntKind.u8 0], eqg := false, stood := false }
  ty91 : T 91 = some { und := TypeDesc.array 16 90, size := 32, bytes := 32, zero := Value.agg #[Value.int IntKind.u8 0, Value.int IntKind.u8 0, Value.int IntKind.u8 0, Value.int IntKind.u8 0, Value.int IntKind.u8 0, Value.int IntKind.u8 0, Value.int IntKind.u8 0, Value.int IntKind.u8 0, Value.int IntKind.u8 0, Value.int IntKind.u8 0, Value.int IntKind.u8 0, Value.int IntKind.u8 0, Value.int IntKind.u8 0, Value.int IntKind.u8 0, Value.int IntKind.u8 0, Value.int IntKind.u8 0, Value.int IntKind.u8 0, Value.int IntKind.u8 0, Value.int IntKind.u8 0, Value.int IntKind.u8 0, Value.int IntKind.u8 0, Value.int IntKind.u8 0, Value.int IntKind.u8 0, Value.int IntKind.u8 0, Value.int IntKind.u8 0, Value.int IntKind.u8 0, Value.int IntKind.u8 0, Value.int IntKind.u8 0, Value.int IntKind.u8 0, Value.int IntKind.u8 0, Value.int IntKind.u8 0, Value.int IntKind.u8 0], eqg := false, stood := false }
  ty93 : T 93 = some { und := TypeDesc.unsafePointer, size := 1, bytes := 8, zero := Value.pointer none, eqg := false, stood := false }
  ty95 : T 95 = some { und := TypeDesc.struct #[{ name := "_interface", type := 17, offset := 0, embedded := false, tag := "", pkgPath := "runtime", byteOffset := 0 }, { name := "concrete", type := 17, offset := 1, embedded := false, tag := "", pkgPath := "runtime", byteOffset := 8 }, { name := "asserted", type := 17, offset := 2, embedded := false, tag := "", pkgPath := "runtime", byteOffset := 16 }, { name := "missingMethod", type := 9, offset := 3, embedded := false, tag := "", pkgPath := "runtime", byteOffset := 24 }], size := 4, bytes := 40, zero := Value.agg { toList := [Value.pointer none, Value.pointer none, Value.pointer none, Value.string { data := #[] }] }, eqg := false, stood := true }
  ty96 : T 96 = some { und := TypeDesc.struct #[{ name := "_interface", type := 17, offset := 0, embedded := false, tag := "", pkgPath := "runtime", byteOffset := 0 }, { name := "concrete", type := 17, offset := 1, embedded := false, tag := "", pkgPath := "runtime", byteOffset := 8 }, { name := "asserted", type := 17, offset := 2, embedded := false, tag := "", pkgPath := "runtime", byteOffset := 16 }, { name := "missingMethod", type := 9, offset := 3, embedded := false, tag := "", pkgPath := "runtime", byteOffset := 24 }], size := 4, bytes := 40, zero := Value.agg { toList := [Value.pointer none, Value.pointer none, Value.pointer none, Value.string { data := #[] }] }, eqg := false, stood := true }
  ty97 : T 97 = some { und := TypeDesc.array 0 16, size := 0, bytes := 0, zero := Value.agg #[], eqg := false, stood := false }
  ty98 : T 98 = some { und := TypeDesc.struct #[{ name := "_", type := 97, offset := 0, embedded := false, tag := "", pkgPath := "runtime", byteOffset := 0 }], size := 0, bytes := 0, zero := Value.agg #[], eqg := false, stood := true }
  ty99 : T 99 = some { und := TypeDesc.struct #[{ name := "_", type := 97, offset := 0, embedded := false, tag := "", pkgPath := "runtime", byteOffset := 0 }], size := 0, bytes := 0, zero := Value.agg #[], eqg := false, stood := true }
  ty101 : T 101 = some { und := TypeDesc.int IntKind.u8, size := 1, bytes := 1, zero := Value.int IntKind.u8 0, eqg := false, stood := false }
  ty102 : T 102 = some { und := TypeDesc.int IntKind.u8, size := 1, bytes := 1, zero := Value.int IntKind.u8 0, eqg := false, stood := false }
  ty104 : T 104 = some { und := TypeDesc.int IntKind.i32, size := 1, bytes := 4, zero := Value.int IntKind.i32 0, eqg := false, stood := false }
  ty105 : T 105 = some { und := TypeDesc.int IntKind.i32, size := 1, bytes := 4, zero := Value.int IntKind.i32 0, eqg := false, stood := false }
  ty106 : T 106 = some { und := TypeDesc.struct #[{ name := "Size_", type := 12, offset := 0, embedded := false, tag := "", pkgPath := "", byteOffset := 0 }, { name := "PtrBytes", type := 12, offset := 1, embedded := false, tag := "", pkgPath := "", byteOffset := 8 }, { name := "Hash", type := 25, offset := 2, embedded := false, tag := "", pkgPath := "", byteOffset := 16 }, { name := "TFlag", type := 101, offset := 3, embedded := false, tag := "", pkgPath := "", byteOffset := 20 }, { name := "Align_", type := 5, offset := 4, embedded := false, tag := "", pkgPath := "", byteOffset := 21 }, { name := "FieldAlign_", type := 5, offset := 5, embedded := false, tag := "", pkgPath := "", byteOffset := 22 }, { name := "Kind_", type := 102, offset := 6, embedded := false, tag := "", pkgPath := "", byteOffset := 23 }, { name := "Equal", type := 103, offset := 7, embedded := false, tag := "", pkgPath := "", byteOffset := 24 }, { name := "GCData", type := 82, offset := 8, embedded := false, tag := "", pkgPath := "", byteOffset := 32 }, { name := "Str", type := 104, offset := 9, embedded := false, tag := "", pkgPath := "", byteOffset := 40 }, { name := "PtrToThis", type := 105, offset := 10, embedded := false, tag := "", pkgPath := "", byteOffset := 44 }], size := 11, bytes := 48, zero := Value.agg #[Value.int IntKind.u64 0, Value.int IntKind.u64 0, Value.int IntKind.u32 0, Value.int IntKind.u8 0, Value.int IntKind.u8 0, Value.int IntKind.u8 0, Value.int IntKind.u8 0, Value.nilFunc, Value.pointer none, Value.int IntKind.i32 0, Value.int IntKind.i32 0], eqg := false, stood := true }
  ty107 : T 107 = some { und := TypeDesc.struct #[{ name := "Size_", type := 12, offset := 0, embedded := false, tag := "", pkgPath := "", byteOffset := 0 }, { name := "PtrBytes", type := 12, offset := 1, embedded := false, tag := "", pkgPath := "", byteOffset := 8 }, { name := "Hash", type := 25, offset := 2, embedded := false, tag := "", pkgPath := "", byteOffset := 16 }, { name := "TFlag", type := 101, offset := 3, embedded := false, tag := "", pkgPath := "", byteOffset := 20 }, { name := "Align_", type := 5, offset := 4, embedded := false, tag := "", pkgPath := "", byteOffset := 21 }, { name := "FieldAlign_", type := 5, offset := 5, embedded := false, tag := "", pkgPath := "", byteOffset := 22 }, { name := "Kind_", type := 102, offset := 6, embedded := false, tag := "", pkgPath := "", byteOffset := 23 }, { name := "Equal", type := 103, offset := 7, embedded := false, tag := "", pkgPath := "", byteOffset := 24 }, { name := "GCData", type := 82, offset := 8, embedded := false, tag := "", pkgPath := "", byteOffset := 32 }, { name := "Str", type := 104, offset := 9, embedded := false, tag := "", pkgPath := "", byteOffset := 40 }, { name := "PtrToThis", type := 105, offset := 10, embedded := false, tag := "", pkgPath := "", byteOffset := 44 }], size := 11, bytes := 48, zero := Value.agg #[Value.int IntKind.u64 0, Value.int IntKind.u64 0, Value.int IntKind.u32 0, Value.int IntKind.u8 0, Value.int IntKind.u8 0, Value.int IntKind.u8 0, Value.int IntKind.u8 0, Value.nilFunc, Value.pointer none, Value.int IntKind.i32 0, Value.int IntKind.i32 0], eqg := false, stood := true }
  ty109 : T 109 = some { und := TypeDesc.float FloatKind.f32, size := 1, bytes := 4, zero := Value.float FloatKind.f32 0, eqg := false, stood := false }

theorem types : Ty T where
  ty0 := by kernel_rfl
  ty2 := by kernel_rfl
  ty3 := by kernel_rfl
  ty4 := by kernel_rfl
  ty5 := by kernel_rfl
  ty6 := by kernel_rfl
  ty7 := by kernel_rfl
  ty8 := by kernel_rfl
  ty9 := by kernel_rfl
  ty10 := by kernel_rfl
  ty11 := by kernel_rfl
  ty12 := by kernel_rfl
  ty13 := by kernel_rfl
  ty14 := by kernel_rfl
  ty15 := by kernel_rfl
  ty16 := by kernel_rfl
  ty17 := by kernel_rfl
  ty18 := by kernel_rfl
  ty19 := by kernel_rfl
  ty20 := by kernel_rfl
  ty21 := by kernel_rfl
  ty22 := by kernel_rfl
  ty23 := by kernel_rfl
  ty25 := by kernel_rfl
  ty28 := by kernel_rfl
  ty29 := by kernel_rfl
  ty31 := by kernel_rfl
  ty41 := by kernel_rfl
  ty42 := by kernel_rfl
  ty43 := by kernel_rfl
  ty46 := by kernel_rfl
  ty47 := by kernel_rfl
  ty49 := by kernel_rfl
  ty51 := by kernel_rfl
  ty54 := by kernel_rfl
  ty56 := by kernel_rfl
  ty58 := by kernel_rfl
  ty60 := by kernel_rfl
  ty64 := by kernel_rfl
  ty65 := by kernel_rfl
  ty66 := by kernel_rfl
  ty67 := by kernel_rfl
  ty68 := by kernel_rfl
  ty77 := by kernel_rfl
  ty78 := by kernel_rfl
  ty79 := by kernel_rfl
  ty82 := by kernel_rfl
  ty88 := by kernel_rfl
  ty89 := by kernel_rfl
  ty90 := by kernel_rfl
  ty91 := by kernel_rfl
  ty93 := by kernel_rfl
  ty95 := by kernel_rfl
  ty96 := by kernel_rfl
  ty97 := by kernel_rfl
  ty98 := by kernel_rfl
  ty99 := by kernel_rfl
  ty101 := by kernel_rfl
  ty102 := by kernel_rfl
  ty104 := by kernel_rfl
  ty105 := by kernel_rfl
  ty106 := by kernel_rfl
  ty107 := by kernel_rfl
  ty109 := by kernel_rfl

set_option linter.defProp false in
set_option maxRecDepth 10000 in
def Ty.all {T : Tab} (hT : Ty T) := And.intro hT.ty0 (And.intro hT.ty2 (And.intro hT.ty3 (And.intro hT.ty4 (And.intro hT.ty5 (And.intro hT.ty6 (And.intro hT.ty7 (And.intro hT.ty8 (And.intro hT.ty9 (And.intro hT.ty10 (And.intro hT.ty11 (And.intro hT.ty12 (And.intro hT.ty13 (And.intro hT.ty14 (And.intro hT.ty15 (And.intro hT.ty16 (And.intro hT.ty17 (And.intro hT.ty18 (And.intro hT.ty19 (And.intro hT.ty20 (And.intro hT.ty21 (And.intro hT.ty22 (And.intro hT.ty23 (And.intro hT.ty25 (And.intro hT.ty28 (And.intro hT.ty29 (And.intro hT.ty31 (And.intro hT.ty41 (And.intro hT.ty42 (And.intro hT.ty43 (And.intro hT.ty46 (And.intro hT.ty47 (And.intro hT.ty49 (And.intro hT.ty51 (And.intro hT.ty54 (And.intro hT.ty56 (And.intro hT.ty58 (And.intro hT.ty60 (And.intro hT.ty64 (And.intro hT.ty65 (And.intro hT.ty66 (And.intro hT.ty67 (And.intro hT.ty68 (And.intro hT.ty77 (And.intro hT.ty78 (And.intro hT.ty79 (And.intro hT.ty82 (And.intro hT.ty88 (And.intro hT.ty89 (And.intro hT.ty90 (And.intro hT.ty91 (And.intro hT.ty93 (And.intro hT.ty95 (And.intro hT.ty96 (And.intro hT.ty97 (And.intro hT.ty98 (And.intro hT.ty99 (And.intro hT.ty101 (And.intro hT.ty102 (And.intro hT.ty104 (And.intro hT.ty105 (And.intro hT.ty106 (And.intro hT.ty107 (hT.ty109)))))))))))))))))))))))))))))))))))))))))))))))))))))))))))))))

def noQ : FuncId → Bool := fun _ => false
def allQ : FuncId → Bool := fun _ => true

/-- A function of this program, by its body. -/
theorem fw {M : Addr → Option AV} {k : FuncId} {fn : Func} {c : Code} {args : List AV} {H : Heap} {Q : AV → Heap → Prop} (hf : Tryd.prog.funcs[k]? = some fn) (hname : (fn.name == "runtime.NumGoroutine") = false) (hb : fn.body = some c) (hr : codeB noQ T c = true)
    (h : ∀ C L T, Ty T → Wk noQ Tryd.prog T M C L → xC noQ C L T M c (args ++ List.replicate (fn.ntmps - args.length) (.tup [])) H (fun o e h => match o with | .exit _ => False | .normal => ∃ l, resA T M e h fn.results.toList = some l ∧ Q (resultA l) h | .ret => ∃ l, resA T M e h fn.results.toList = some l ∧ Q (resultA l) h) .mk) : SemF Tryd.prog M k args H Q :=
  fn_way sound hf hname hb hr fun C L hW => h C L T types hW

/-- The same, where the calls of its drawn regions are quiet. -/
theorem fq {M : Addr → Option AV} {k : FuncId} {fn : Func} {c : Code} {args : List AV} {H : Heap} {Q : AV → Heap → Prop} (hf : Tryd.prog.funcs[k]? = some fn) (hname : (fn.name == "runtime.NumGoroutine") = false) (hb : fn.body = some c) (hr : codeB allQ T c = true)
    (h : ∀ C L T, Ty T → Wk allQ Tryd.prog T M C L → xC allQ C L T M c (args ++ List.replicate (fn.ntmps - args.length) (.tup [])) H (fun o e h => match o with | .exit _ => False | .normal => ∃ l, resA T M e h fn.results.toList = some l ∧ Q (resultA l) h | .ret => ∃ l, resA T M e h fn.results.toList = some l ∧ Q (resultA l) h) .mk) : SemF Tryd.prog M k args H Q :=
  fn_way sound hf hname hb hr fun C L hW => h C L T types hW

end Go.Proofs.YtmecikblalignaaDoor.B
