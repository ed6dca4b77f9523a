/- Part of a claim: the kinds of value that this program names, by number; a function by its body. (Printed by gen_types.py.) -/
import Derived.Test.YtpddepehlinfnaaGreatDoorPG1
set_option linter.unusedSimpArgs false
set_option linter.unusedVariables false
namespace Go.Proofs.YtpddepehlinfnaaGreatDoor.B
open Go Go.RowKit Go.Proofs.YtpddepehlinfnaaGreatDoor.E

/-- What the texts ask of the table of kinds. -/
structure Ty (T : Tab) : Prop where
  ty0 : T 0 = some { und := TypeDesc.tuple #[], size := 1, bytes := 0, zero := Value.tuple #[], eqg := false, stood := false }
  ty2 : T 2 = some { und := TypeDesc.int IntKind.i64, size := 1, bytes := 8, zero := Value.int IntKind.i64 0, eqg := false, stood := false }
  ty3 : T 3 = some { und := TypeDesc.int IntKind.i64, size := 1, bytes := 8, zero := Value.int IntKind.i64 0, eqg := false, stood := false }
  ty4 : T 4 = some { und := TypeDesc.bool, size := 1, bytes := 1, zero := Value.bool false, eqg := false, stood := false }
  ty5 : T 5 = some { und := TypeDesc.int IntKind.u8, size := 1, bytes := 1, zero := Value.int IntKind.u8 0, eqg := false, stood := false }
  ty6 : T 6 = some { und := TypeDesc.int IntKind.u8, size := 1, bytes := 1, zero := Value.int IntKind.u8 0, eqg := false, stood := false }
  ty7 : T 7 = some { und := TypeDesc.struct #[{ name := "x", type := 2, offset := 0, embedded := false, tag := "", pkgPath := "runtime", byteOffset := 0 }, { name := "y", type := 3, offset := 1, embedded := false, tag := "", pkgPath := "runtime", byteOffset := 8 }, { name := "signed", type := 4, offset := 2, embedded := false, tag := "", pkgPath := "runtime", byteOffset := 16 }, { name := "code", type := 6, offset := 3, embedded := false, tag := "", pkgPath := "runtime", byteOffset := 17 }], size := 4, bytes := 24, zero := Value.agg #[Value.int IntKind.i64 0, Value.int IntKind.i64 0, Value.bool false, Value.int IntKind.u8 0], eqg := false, stood := false }
  ty8 : T 8 = some { und := TypeDesc.struct #[{ name := "x", type := 2, offset := 0, embedded := false, tag := "", pkgPath := "runtime", byteOffset := 0 }, { name := "y", type := 3, offset := 1, embedded := false, tag := "", pkgPath := "runtime", byteOffset := 8 }, { name := "signed", type := 4, offset := 2, embedded := false, tag := "", pkgPath := "runtime", byteOffset := 16 }, { name := "code", type := 6, offset := 3, embedded := false, tag := "", pkgPath := "runtime", byteOffset := 17 }], size := 4, bytes := 24, zero := Value.agg #[Value.int IntKind.i64 0, Value.int IntKind.i64 0, Value.bool false, Value.int IntKind.u8 0], eqg := false, stood := false }
  ty9 : T 9 = some { und := TypeDesc.string, size := 1, bytes := 16, zero := Value.string { data := #[] }, eqg := false, stood := false }
  ty10 : T 10 = some { und := TypeDesc.string, size := 1, bytes := 16, zero := Value.string { data := #[] }, eqg := false, stood := false }
  ty11 : T 11 = some { und := TypeDesc.string, size := 1, bytes := 16, zero := Value.string { data := #[] }, eqg := false, stood := false }
  ty12 : T 12 = some { und := TypeDesc.int IntKind.u64, size := 1, bytes := 8, zero := Value.int IntKind.u64 0, eqg := false, stood := false }
  ty13 : T 13 = some { und := TypeDesc.struct #[{ name := "msg", type := 9, offset := 0, embedded := false, tag := "", pkgPath := "runtime", byteOffset := 0 }, { name := "addr", type := 12, offset := 1, embedded := false, tag := "", pkgPath := "runtime", byteOffset := 16 }], size := 2, bytes := 24, zero := Value.agg { toList := [Value.string { data := #[] }, Value.int IntKind.u64 0] }, eqg := false, stood := true }
  ty14 : T 14 = some { und := TypeDesc.struct #[{ name := "msg", type := 9, offset := 0, embedded := false, tag := "", pkgPath := "runtime", byteOffset := 0 }, { name := "addr", type := 12, offset := 1, embedded := false, tag := "", pkgPath := "runtime", byteOffset := 16 }], size := 2, bytes := 24, zero := Value.agg { toList := [Value.string { data := #[] }, Value.int IntKind.u64 0] }, eqg := false, stood := true }
  ty15 : T 15 = some { und := TypeDesc.pointer 207, size := 1, bytes := 8, zero := Value.pointer none, eqg := false, stood := false }
  ty16 : T 16 = some { und := TypeDesc.pointer 210, size := 1, bytes := 8, zero := Value.pointer none, eqg := false, stood := false }
  ty17 : T 17 = some { und := TypeDesc.pointer 218, size := 1, bytes := 8, zero := Value.pointer none, eqg := false, stood := false }
  ty18 : T 18 = some { und := TypeDesc.struct #[{ name := "typ", type := 17, offset := 0, embedded := false, tag := "", pkgPath := "internal/runtime/maps", byteOffset := 0 }], size := 1, bytes := 8, zero := Value.agg #[Value.pointer none], eqg := false, stood := true }
  ty19 : T 19 = some { und := TypeDesc.struct #[{ name := "typ", type := 17, offset := 0, embedded := false, tag := "", pkgPath := "internal/runtime/maps", byteOffset := 0 }], size := 1, bytes := 8, zero := Value.agg #[Value.pointer none], eqg := false, stood := true }
  ty20 : T 20 = some { und := TypeDesc.interface #[], size := 1, bytes := 16, zero := Value.nilIface, eqg := false, stood := false }
  ty21 : T 21 = some { und := TypeDesc.int IntKind.i32, size := 1, bytes := 4, zero := Value.int IntKind.i32 0, eqg := false, stood := false }
  ty22 : T 22 = some { und := TypeDesc.slice 23, size := 1, bytes := 24, zero := Value.slice none 0 0, eqg := false, stood := false }
  ty23 : T 23 = some { und := TypeDesc.int IntKind.u64, size := 1, bytes := 8, zero := Value.int IntKind.u64 0, eqg := false, stood := false }
  ty24 : T 24 = some { und := TypeDesc.slice 26, size := 1, bytes := 24, zero := Value.slice none 0 0, eqg := false, stood := false }
  ty26 : T 26 = some { und := TypeDesc.float FloatKind.f64, size := 1, bytes := 8, zero := Value.float FloatKind.f64 0, eqg := false, stood := false }
  ty29 : T 29 = some { und := TypeDesc.int IntKind.i64, size := 1, bytes := 8, zero := Value.int IntKind.i64 0, eqg := false, stood := false }
  ty40 : T 40 = some { und := TypeDesc.int IntKind.i64, size := 1, bytes := 8, zero := Value.int IntKind.i64 0, eqg := false, stood := false }
  ty41 : T 41 = some { und := TypeDesc.tuple #[2, 3, 40], size := 1, bytes := 0, zero := Value.tuple #[Value.int IntKind.i64 0, Value.int IntKind.i64 0, Value.int IntKind.i64 0], eqg := false, stood := false }
  ty43 : T 43 = some { und := TypeDesc.tuple #[2, 3, 3], size := 1, bytes := 0, zero := Value.tuple #[Value.int IntKind.i64 0, Value.int IntKind.i64 0, Value.int IntKind.i64 0], eqg := false, stood := false }
  ty52 : T 52 = some { und := TypeDesc.tuple #[26, 40], size := 1, bytes := 0, zero := Value.tuple #[Value.float FloatKind.f64 0, Value.int IntKind.i64 0], eqg := false, stood := false }
  ty54 : T 54 = some { und := TypeDesc.tuple #[26, 3], size := 1, bytes := 0, zero := Value.tuple #[Value.float FloatKind.f64 0, Value.int IntKind.i64 0], eqg := false, stood := false }
  ty57 : T 57 = some { und := TypeDesc.tuple #[9, 40], size := 1, bytes := 0, zero := Value.tuple { toList := [Value.string { data := #[] }, Value.int IntKind.i64 0] }, eqg := false, stood := false }
  ty59 : T 59 = some { und := TypeDesc.tuple #[9, 3], size := 1, bytes := 0, zero := Value.tuple { toList := [Value.string { data := #[] }, Value.int IntKind.i64 0] }, eqg := false, stood := false }
  ty61 : T 61 = some { und := TypeDesc.tuple #[26, 4], size := 1, bytes := 0, zero := Value.tuple #[Value.float FloatKind.f64 0, Value.bool false], eqg := false, stood := false }
  ty65 : T 65 = some { und := TypeDesc.array 76 2, size := 76, bytes := 608, zero := Value.agg #[Value.int IntKind.i64 0, Value.int IntKind.i64 0, Value.int IntKind.i64 0, Value.int IntKind.i64 0, Value.int IntKind.i64 0, Value.int IntKind.i64 0, Value.int IntKind.i64 0, Value.int IntKind.i64 0, Value.int IntKind.i64 0, Value.int IntKind.i64 0, Value.int IntKind.i64 0, Value.int IntKind.i64 0, Value.int IntKind.i64 0, Value.int IntKind.i64 0, Value.int IntKind.i64 0, Value.int IntKind.i64 0, Value.int IntKind.i64 0, Value.int IntKind.i64 0, Value.int IntKind.i64 0, Value.int IntKind.i64 0, Value.int IntKind.i64 0, Value.int IntKind.i64 0, Value.int IntKind.i64 0, Value.int IntKind.i64 0, Value.int IntKind.i64 0, Value.int IntKind.i64 0, Value.int IntKind.i64 0, Value.int IntKind.i64 0, Value.int IntKind.i64 0, Value.int IntKind.i64 0, Value.int IntKind.i64 0, Value.int IntKind.i64 0, Value.int IntKind.i64 0, Value.int IntKind.i64 0, Value.int IntKind.i64 0, Value.int IntKind.i64 0, Value.int IntKind.i64 0, Value.int IntKind.i64 0, Value.int IntKind.i64 0, Value.int IntKind.i64 0, Value.int IntKind.i64 0, Value.int IntKind.i64 0, Value.int IntKind.i64 0, Value.int IntKind.i64 0, Value.int IntKind.i64 0, Value.int IntKind.i64 0, Value.int IntKind.i64 0, Value.int IntKind.i64 0, Value.int IntKind.i64 0, Value.int IntKind.i64 0, Value.int IntKind.i64 0, Value.int IntKind.i64 0, Value.int IntKind.i64 0, Value.int IntKind.i64 0, Value.int IntKind.i64 0, Value.int IntKind.i64 0, Value.int IntKind.i64 0, Value.int IntKind.i64 0, Value.int IntKind.i64 0, Value.int IntKind.i64 0, Value.int IntKind.i64 0, Value.int IntKind.i64 0, Value.int IntKind.i64 0, Value.int IntKind.i64 0, Value.int IntKind.i64 0, Value.int IntKind.i64 0, Value.int IntKind.i64 0, Value.int IntKind.i64 0, Value.int IntKind.i64 0, Value.int IntKind.i64 0, Value.int IntKind.i64 0, Value.int IntKind.i64 0, Value.int IntKind.i64 0, Value.int IntKind.i64 0, Value.int IntKind.i64 0, Value.int IntKind.i64 0], eqg := false, stood := false }
  ty66 : T 66 = some { und := TypeDesc.array 76 2, size := 76, bytes := 608, zero := Value.agg #[Value.int IntKind.i64 0, Value.int IntKind.i64 0, Value.int IntKind.i64 0, Value.int IntKind.i64 0, Value.int IntKind.i64 0, Value.int IntKind.i64 0, Value.int IntKind.i64 0, Value.int IntKind.i64 0, Value.int IntKind.i64 0, Value.int IntKind.i64 0, Value.int IntKind.i64 0, Value.int IntKind.i64 0, Value.int IntKind.i64 0, Value.int IntKind.i64 0, Value.int IntKind.i64 0, Value.int IntKind.i64 0, Value.int IntKind.i64 0, Value.int IntKind.i64 0, Value.int IntKind.i64 0, Value.int IntKind.i64 0, Value.int IntKind.i64 0, Value.int IntKind.i64 0, Value.int IntKind.i64 0, Value.int IntKind.i64 0, Value.int IntKind.i64 0, Value.int IntKind.i64 0, Value.int IntKind.i64 0, Value.int IntKind.i64 0, Value.int IntKind.i64 0, Value.int IntKind.i64 0, Value.int IntKind.i64 0, Value.int IntKind.i64 0, Value.int IntKind.i64 0, Value.int IntKind.i64 0, Value.int IntKind.i64 0, Value.int IntKind.i64 0, Value.int IntKind.i64 0, Value.int IntKind.i64 0, Value.int IntKind.i64 0, Value.int IntKind.i64 0, Value.int IntKind.i64 0, Value.int IntKind.i64 0, Value.int IntKind.i64 0, Value.int IntKind.i64 0, Value.int IntKind.i64 0, Value.int IntKind.i64 0, Value.int IntKind.i64 0, Value.int IntKind.i64 0, Value.int IntKind.i64 0, Value.int IntKind.i64 0, Value.int IntKind.i64 0, Value.int IntKind.i64 0, Value.int IntKind.i64 0, Value.int IntKind.i64 0, Value.int IntKind.i64 0, Value.int IntKind.i64 0, Value.int IntKind.i64 0, Value.int IntKind.i64 0, Value.int IntKind.i64 0, Value.int IntKind.i64 0, Value.int IntKind.i64 0, Value.int IntKind.i64 0, Value.int IntKind.i64 0, Value.int IntKind.i64 0, Value.int IntKind.i64 0, Value.int IntKind.i64 0, Value.int IntKind.i64 0, Value.int IntKind.i64 0, Value.int IntKind.i64 0, Value.int IntKind.i64 0, Value.int IntKind.i64 0, Value.int IntKind.i64 0, Value.int IntKind.i64 0, Value.int IntKind.i64 0, Value.int IntKind.i64 0, Value.int IntKind.i64 0], eqg := false, stood := false }
  ty71 : T 71 = some { und := TypeDesc.int IntKind.u64, size := 1, bytes := 8, zero := Value.int IntKind.u64 0, eqg := false, stood := false }
  ty72 : T 72 = some { und := TypeDesc.slice 2, size := 1, bytes := 24, zero := Value.slice none 0 0, eqg := false, stood := false }
  ty73 : T 73 = some { und := TypeDesc.tuple #[23, 3], size := 1, bytes := 0, zero := Value.tuple #[Value.int IntKind.u64 0, Value.int IntKind.i64 0], eqg := false, stood := false }
  ty84 : T 84 = some { und := TypeDesc.tuple #[9, 9, 4], size := 1, bytes := 0, zero := Value.tuple { toList := [Value.string { data := #[] }, Value.string { data := #[] }, Value.bool false] }, eqg := false, stood := false }
  ty86 : T 86 = some { und := TypeDesc.interface #[("Error", 205)], size := 1, bytes := 16, zero := Value.nilIface, eqg := true, stood := false }
  ty87 : T 87 = some { und := TypeDesc.interface #[("Error", 205)], size := 1, bytes := 16, zero := Value.nilIface, eqg := true, stood := false }
  ty88 : T 88 = some { und := TypeDesc.tuple #[3, 87], size := 1, bytes := 0, zero := Value.tuple #[Value.int IntKind.i64 0, Value.nilIface], eqg := false, stood := false }
  ty91 : T 91 = some { und := TypeDesc.tuple #[26, 87], size := 1, bytes := 0, zero := Value.tuple #[Value.float FloatKind.f64 0, Value.nilIface], eqg := false, stood := false }
  ty94 : T 94 = some { und := TypeDesc.slice 3, size := 1, bytes := 24, zero := Value.slice none 0 0, eqg := false, stood := false }
  ty96 : T 96 = some { und := TypeDesc.pointer 66, size := 1, bytes := 8, zero := Value.pointer none, eqg := false, stood := false }
  ty97 : T 97 = some { und := TypeDesc.array 64 5, size := 64, bytes := 64, zero := Value.agg #[Value.int IntKind.u8 0, Value.int IntKind.u8 0, Value.int IntKind.u8 0, Value.int IntKind.u8 0, Value.int IntKind.u8 0, Value.int IntKind.u8 0, Value.int IntKind.u8 0, Value.int IntKind.u8 0, Value.int IntKind.u8 0, Value.int IntKind.u8 0, Value.int IntKind.u8 0, Value.int IntKind.u8 0, Value.int IntKind.u8 0, Value.int IntKind.u8 0, Value.int IntKind.u8 0, Value.int IntKind.u8 0, Value.int IntKind.u8 0, Value.int IntKind.u8 0, Value.int IntKind.u8 0, Value.int IntKind.u8 0, Value.int IntKind.u8 0, Value.int IntKind.u8 0, Value.int IntKind.u8 0, Value.int IntKind.u8 0, Value.int IntKind.u8 0, Value.int IntKind.u8 0, Value.int IntKind.u8 0, Value.int IntKind.u8 0, Value.int IntKind.u8 0, Value.int IntKind.u8 0, Value.int IntKind.u8 0, Value.int IntKind.u8 0, Value.int IntKind.u8 0, Value.int IntKind.u8 0, Value.int IntKind.u8 0, Value.int IntKind.u8 0, Value.int IntKind.u8 0, Value.int IntKind.u8 0, Value.int IntKind.u8 0, Value.int IntKind.u8 0, Value.int IntKind.u8 0, Value.int IntKind.u8 0, Value.int IntKind.u8 0, Value.int IntKind.u8 0, Value.int IntKind.u8 0, Value.int IntKind.u8 0, Value.int IntKind.u8 0, Value.int IntKind.u8 0, Value.int IntKind.u8 0, Value.int IntKind.u8 0, Value.int IntKind.u8 0, Value.int IntKind.u8 0, Value.int IntKind.u8 0, Value.int IntKind.u8 0, Value.int IntKind.u8 0, Value.int IntKind.u8 0, Value.int IntKind.u8 0, Value.int IntKind.u8 0, Value.int IntKind.u8 0, Value.int IntKind.u8 0, Value.int IntKind.u8 0, Value.int IntKind.u8 0, Value.int IntKind.u8 0, Value.int IntKind.u8 0], eqg := false, stood := false }
  ty101 : T 101 = some { und := TypeDesc.slice 5, size := 1, bytes := 24, zero := Value.slice none 0 0, eqg := false, stood := false }
  ty103 : T 103 = some { und := TypeDesc.float FloatKind.f32, size := 1, bytes := 4, zero := Value.float FloatKind.f32 0, eqg := false, stood := false }
  ty106 : T 106 = some { und := TypeDesc.int IntKind.i64, size := 1, bytes := 8, zero := Value.int IntKind.i64 0, eqg := false, stood := false }
  ty107 : T 107 = some { und := TypeDesc.tuple #[2, 87], size := 1, bytes := 0, zero := Value.tuple #[Value.int IntKind.i64 0, Value.nilIface], eqg := false, stood := false }
  ty109 : T 109 = some { und := TypeDesc.pointer 138, size := 1, bytes := 8, zero := Value.pointer none, eqg := false, stood := false }
  ty113 : T 113 = some { und := TypeDesc.tuple #[26, 3, 87], size := 1, bytes := 0, zero := Value.tuple #[Value.float FloatKind.f64 0, Value.int IntKind.i64 0, Value.nilIface], eqg := false, stood := false }
  ty115 : T 115 = some { und := TypeDesc.int IntKind.u32, size := 1, bytes := 4, zero := Value.int IntKind.u32 0, eqg := false, stood := false }
  ty120 : T 120 = some { und := TypeDesc.array 32 5, size := 32, bytes := 32, zero := Value.agg #[Value.int IntKind.u8 0, Value.int IntKind.u8 0, Value.int IntKind.u8 0, Value.int IntKind.u8 0, Value.int IntKind.u8 0, Value.int IntKind.u8 0, Value.int IntKind.u8 0, Value.int IntKind.u8 0, Value.int IntKind.u8 0, Value.int IntKind.u8 0, Value.int IntKind.u8 0, Value.int IntKind.u8 0, Value.int IntKind.u8 0, Value.int IntKind.u8 0, Value.int IntKind.u8 0, Value.int IntKind.u8 0, Value.int IntKind.u8 0, Value.int IntKind.u8 0, Value.int IntKind.u8 0, Value.int IntKind.u8 0, Value.int IntKind.u8 0, Value.int IntKind.u8 0, Value.int IntKind.u8 0, Value.int IntKind.u8 0, Value.int IntKind.u8 0, Value.int IntKind.u8 0, Value.int IntKind.u8 0, Value.int IntKind.u8 0, Value.int IntKind.u8 0, Value.int IntKind.u8 0, Value.int IntKind.u8 0, Value.int IntKind.u8 0], eqg := false, stood := false }
  ty122 : T 122 = some { und := TypeDesc.tuple #[3, 3], size := 1, bytes := 0, zero := Value.tuple #[Value.int IntKind.i64 0, Value.int IntKind.i64 0], eqg := false, stood := false }
  ty125 : T 125 = some { und := TypeDesc.array 24 5, size := 24, bytes := 24, zero := Value.agg #[Value.int IntKind.u8 0, Value.int IntKind.u8 0, Value.int IntKind.u8 0, Value.int IntKind.u8 0, Value.int IntKind.u8 0, Value.int IntKind.u8 0, Value.int IntKind.u8 0, Value.int IntKind.u8 0, Value.int IntKind.u8 0, Value.int IntKind.u8 0, Value.int IntKind.u8 0, Value.int IntKind.u8 0, Value.int IntKind.u8 0, Value.int IntKind.u8 0, Value.int IntKind.u8 0, Value.int IntKind.u8 0, Value.int IntKind.u8 0, Value.int IntKind.u8 0, Value.int IntKind.u8 0, Value.int IntKind.u8 0, Value.int IntKind.u8 0, Value.int IntKind.u8 0, Value.int IntKind.u8 0, Value.int IntKind.u8 0], eqg := false, stood := false }
  ty127 : T 127 = some { und := TypeDesc.pointer 130, size := 1, bytes := 8, zero := Value.pointer none, eqg := false, stood := false }
  ty134 : T 134 = some { und := TypeDesc.tuple #[23, 87], size := 1, bytes := 0, zero := Value.tuple #[Value.int IntKind.u64 0, Value.nilIface], eqg := false, stood := false }
  ty137 : T 137 = some { und := TypeDesc.struct #[{ name := "Func", type := 9, offset := 0, embedded := false, tag := "", pkgPath := "", byteOffset := 0 }, { name := "Num", type := 9, offset := 1, embedded := false, tag := "", pkgPath := "", byteOffset := 16 }, { name := "Err", type := 87, offset := 2, embedded := false, tag := "", pkgPath := "", byteOffset := 32 }], size := 3, bytes := 48, zero := Value.agg { toList := [Value.string { data := #[] }, Value.string { data := #[] }, Value.nilIface] }, eqg := true, stood := false }
  ty138 : T 138 = some { und := TypeDesc.struct #[{ name := "Func", type := 9, offset := 0, embedded := false, tag := "", pkgPath := "", byteOffset := 0 }, { name := "Num", type := 9, offset := 1, embedded := false, tag := "", pkgPath := "", byteOffset := 16 }, { name := "Err", type := 87, offset := 2, embedded := false, tag := "", pkgPath := "", byteOffset := 32 }], size := 3, bytes := 48, zero := Value.agg { toList := [Value.string { data := #[] }, Value.string { data := #[] }, Value.nilIface] }, eqg := true, stood := false }
  ty141 : T 141 = some { und := TypeDesc.tuple #[101, 9], size := 1, bytes := 0, zero := Value.tuple { toList := [Value.slice none 0 0, Value.string { data := #[] }] }, eqg := false, stood := false }
  ty143 : T 143 = some { und := TypeDesc.tuple #[103, 3, 87], size := 1, bytes := 0, zero := Value.tuple #[Value.float FloatKind.f32 0, Value.int IntKind.i64 0, Value.nilIface], eqg := false, stood := false }
  ty149 : T 149 = some { und := TypeDesc.struct #[{ name := "pmHi", type := 23, offset := 0, embedded := false, tag := "", pkgPath := "internal/strconv", byteOffset := 0 }, { name := "pmLo", type := 23, offset := 1, embedded := false, tag := "", pkgPath := "internal/strconv", byteOffset := 8 }, { name := "s", type := 3, offset := 2, embedded := false, tag := "", pkgPath := "internal/strconv", byteOffset := 16 }], size := 3, bytes := 24, zero := Value.agg #[Value.int IntKind.u64 0, Value.int IntKind.u64 0, Value.int IntKind.i64 0], eqg := false, stood := false }
  ty150 : T 150 = some { und := TypeDesc.struct #[{ name := "pmHi", type := 23, offset := 0, embedded := false, tag := "", pkgPath := "internal/strconv", byteOffset := 0 }, { name := "pmLo", type := 23, offset := 1, embedded := false, tag := "", pkgPath := "internal/strconv", byteOffset := 8 }, { name := "s", type := 3, offset := 2, embedded := false, tag := "", pkgPath := "internal/strconv", byteOffset := 16 }], size := 3, bytes := 24, zero := Value.agg #[Value.int IntKind.u64 0, Value.int IntKind.u64 0, Value.int IntKind.i64 0], eqg := false, stood := false }
  ty152 : T 152 = some { und := TypeDesc.pointer 150, size := 1, bytes := 8, zero := Value.pointer none, eqg := false, stood := false }
  ty153 : T 153 = some { und := TypeDesc.int IntKind.u64, size := 1, bytes := 8, zero := Value.int IntKind.u64 0, eqg := false, stood := false }
  ty158 : T 158 = some { und := TypeDesc.array 20 23, size := 20, bytes := 160, zero := Value.agg #[Value.int IntKind.u64 0, Value.int IntKind.u64 0, Value.int IntKind.u64 0, Value.int IntKind.u64 0, Value.int IntKind.u64 0, Value.int IntKind.u64 0, Value.int IntKind.u64 0, Value.int IntKind.u64 0, Value.int IntKind.u64 0, Value.int IntKind.u64 0, Value.int IntKind.u64 0, Value.int IntKind.u64 0, Value.int IntKind.u64 0, Value.int IntKind.u64 0, Value.int IntKind.u64 0, Value.int IntKind.u64 0, Value.int IntKind.u64 0, Value.int IntKind.u64 0, Value.int IntKind.u64 0, Value.int IntKind.u64 0], eqg := false, stood := false }
  ty163 : T 163 = some { und := TypeDesc.tuple #[115, 115], size := 1, bytes := 0, zero := Value.tuple #[Value.int IntKind.u32 0, Value.int IntKind.u32 0], eqg := false, stood := false }
  ty165 : T 165 = some { und := TypeDesc.pointer 5, size := 1, bytes := 8, zero := Value.pointer none, eqg := false, stood := false }
  ty166 : T 166 = some { und := TypeDesc.pointer 168, size := 1, bytes := 8, zero := Value.pointer none, eqg := false, stood := false }
  ty167 : T 167 = some { und := TypeDesc.struct #[{ name := "s", type := 9, offset := 0, embedded := false, tag := "", pkgPath := "errors", byteOffset := 0 }], size := 1, bytes := 16, zero := Value.agg { toList := [Value.string { data := #[] }] }, eqg := false, stood := false }
  ty168 : T 168 = some { und := TypeDesc.struct #[{ name := "s", type := 9, offset := 0, embedded := false, tag := "", pkgPath := "errors", byteOffset := 0 }], size := 1, bytes := 16, zero := Value.agg { toList := [Value.string { data := #[] }] }, eqg := false, stood := false }
  ty169 : T 169 = some { und := TypeDesc.array 65 5, size := 65, bytes := 65, zero := Value.agg #[Value.int IntKind.u8 0, Value.int IntKind.u8 0, Value.int IntKind.u8 0, Value.int IntKind.u8 0, Value.int IntKind.u8 0, Value.int IntKind.u8 0, Value.int IntKind.u8 0, Value.int IntKind.u8 0, Value.int IntKind.u8 0, Value.int IntKind.u8 0, Value.int IntKind.u8 0, Value.int IntKind.u8 0, Value.int IntKind.u8 0, Value.int IntKind.u8 0, Value.int IntKind.u8 0, Value.int IntKind.u8 0, Value.int IntKind.u8 0, Value.int IntKind.u8 0, Value.int IntKind.u8 0, Value.int IntKind.u8 0, Value.int IntKind.u8 0, Value.int IntKind.u8 0, Value.int IntKind.u8 0, Value.int IntKind.u8 0, Value.int IntKind.u8 0, Value.int IntKind.u8 0, Value.int IntKind.u8 0, Value.int IntKind.u8 0, Value.int IntKind.u8 0, Value.int IntKind.u8 0, Value.int IntKind.u8 0, Value.int IntKind.u8 0, Value.int IntKind.u8 0, Value.int IntKind.u8 0, Value.int IntKind.u8 0, Value.int IntKind.u8 0, Value.int IntKind.u8 0, Value.int IntKind.u8 0, Value.int IntKind.u8 0, Value.int IntKind.u8 0, Value.int IntKind.u8 0, Value.int IntKind.u8 0, Value.int IntKind.u8 0, Value.int IntKind.u8 0, Value.int IntKind.u8 0, Value.int IntKind.u8 0, Value.int IntKind.u8 0, Value.int IntKind.u8 0, Value.int IntKind.u8 0, Value.int IntKind.u8 0, Value.int IntKind.u8 0, Value.int IntKind.u8 0, Value.int IntKind.u8 0, Value.int IntKind.u8 0, Value.int IntKind.u8 0, Value.int IntKind.u8 0, Value.int IntKind.u8 0, Value.int IntKind.u8 0, Value.int IntKind.u8 0, Value.int IntKind.u8 0, Value.int IntKind.u8 0, Value.int IntKind.u8 0, Value.int IntKind.u8 0, Value.int IntKind.u8 0, Value.int IntKind.u8 0], eqg := false, stood := false }
  ty172 : T 172 = some { und := TypeDesc.tuple #[26, 3, 4], size := 1, bytes := 0, zero := Value.tuple #[Value.float FloatKind.f64 0, Value.int IntKind.i64 0, Value.bool false], eqg := false, stood := false }
  ty174 : T 174 = some { und := TypeDesc.tuple #[23, 3, 4, 4, 4, 3, 4], size := 1, bytes := 0, zero := Value.tuple #[Value.int IntKind.u64 0, Value.int IntKind.i64 0, Value.bool false, Value.bool false, Value.bool false, Value.int IntKind.i64 0, Value.bool false], eqg := false, stood := false }
  ty177 : T 177 = some { und := TypeDesc.pointer 179, size := 1, bytes := 8, zero := Value.pointer none, eqg := false, stood := false }
  ty178 : T 178 = some { und := TypeDesc.struct #[{ name := "mantbits", type := 71, offset := 0, embedded := false, tag := "", pkgPath := "internal/strconv", byteOffset := 0 }, { name := "expbits", type := 71, offset := 1, embedded := false, tag := "", pkgPath := "internal/strconv", byteOffset := 8 }, { name := "bias", type := 3, offset := 2, embedded := false, tag := "", pkgPath := "internal/strconv", byteOffset := 16 }], size := 3, bytes := 24, zero := Value.agg #[Value.int IntKind.u64 0, Value.int IntKind.u64 0, Value.int IntKind.i64 0], eqg := false, stood := false }
  ty179 : T 179 = some { und := TypeDesc.struct #[{ name := "mantbits", type := 71, offset := 0, embedded := false, tag := "", pkgPath := "internal/strconv", byteOffset := 0 }, { name := "expbits", type := 71, offset := 1, embedded := false, tag := "", pkgPath := "internal/strconv", byteOffset := 8 }, { name := "bias", type := 3, offset := 2, embedded := false, tag := "", pkgPath := "internal/strconv", byteOffset := 16 }], size := 3, bytes := 24, zero := Value.agg #[Value.int IntKind.u64 0, Value.int IntKind.u64 0, Value.int IntKind.i64 0], eqg := false, stood := false }
  ty182 : T 182 = some { und := TypeDesc.tuple #[103, 4], size := 1, bytes := 0, zero := Value.tuple #[Value.float FloatKind.f32 0, Value.bool false], eqg := false, stood := false }
  ty184 : T 184 = some { und := TypeDesc.tuple #[103, 87], size := 1, bytes := 0, zero := Value.tuple #[Value.float FloatKind.f32 0, Value.nilIface], eqg := false, stood := false }
  ty186 : T 186 = some { und := TypeDesc.tuple #[23, 4], size := 1, bytes := 0, zero := Value.tuple #[Value.int IntKind.u64 0, Value.bool false], eqg := false, stood := false }
  ty191 : T 191 = some { und := TypeDesc.struct #[{ name := "hi", type := 23, offset := 0, embedded := false, tag := "", pkgPath := "internal/strconv", byteOffset := 0 }, { name := "lo", type := 23, offset := 1, embedded := false, tag := "", pkgPath := "internal/strconv", byteOffset := 8 }], size := 2, bytes := 16, zero := Value.agg #[Value.int IntKind.u64 0, Value.int IntKind.u64 0], eqg := false, stood := false }
  ty192 : T 192 = some { und := TypeDesc.struct #[{ name := "hi", type := 23, offset := 0, embedded := false, tag := "", pkgPath := "internal/strconv", byteOffset := 0 }, { name := "lo", type := 23, offset := 1, embedded := false, tag := "", pkgPath := "internal/strconv", byteOffset := 8 }], size := 2, bytes := 16, zero := Value.agg #[Value.int IntKind.u64 0, Value.int IntKind.u64 0], eqg := false, stood := false }
  ty194 : T 194 = some { und := TypeDesc.tuple #[23, 23], size := 1, bytes := 0, zero := Value.tuple #[Value.int IntKind.u64 0, Value.int IntKind.u64 0], eqg := false, stood := false }
  ty197 : T 197 = some { und := TypeDesc.struct #[{ name := "delta", type := 3, offset := 0, embedded := false, tag := "", pkgPath := "internal/strconv", byteOffset := 0 }, { name := "cutoff", type := 9, offset := 1, embedded := false, tag := "", pkgPath := "internal/strconv", byteOffset := 8 }], size := 2, bytes := 24, zero := Value.agg { toList := [Value.int IntKind.i64 0, Value.string { data := #[] }] }, eqg := false, stood := false }
  ty198 : T 198 = some { und := TypeDesc.struct #[{ name := "delta", type := 3, offset := 0, embedded := false, tag := "", pkgPath := "internal/strconv", byteOffset := 0 }, { name := "cutoff", type := 9, offset := 1, embedded := false, tag := "", pkgPath := "internal/strconv", byteOffset := 8 }], size := 2, bytes := 24, zero := Value.agg { toList := [Value.int IntKind.i64 0, Value.string { data := #[] }] }, eqg := false, stood := false }
  ty199 : T 199 = some { und := TypeDesc.slice 198, size := 1, bytes := 24, zero := Value.slice none 0 0, eqg := false, stood := false }
  ty202 : T 202 = some { und := TypeDesc.slice 103, size := 1, bytes := 24, zero := Value.slice none 0 0, eqg := false, stood := false }
  ty206 : T 206 = some { und := TypeDesc.struct #[{ name := "_interface", type := 17, offset := 0, embedded := false, tag := "", pkgPath := "runtime", byteOffset := 0 }, { name := "concrete", type := 17, offset := 1, embedded := false, tag := "", pkgPath := "runtime", byteOffset := 8 }, { name := "asserted", type := 17, offset := 2, embedded := false, tag := "", pkgPath := "runtime", byteOffset := 16 }, { name := "missingMethod", type := 9, offset := 3, embedded := false, tag := "", pkgPath := "runtime", byteOffset := 24 }], size := 4, bytes := 40, zero := Value.agg { toList := [Value.pointer none, Value.pointer none, Value.pointer none, Value.string { data := #[] }] }, eqg := false, stood := true }
  ty207 : T 207 = some { und := TypeDesc.struct #[{ name := "_interface", type := 17, offset := 0, embedded := false, tag := "", pkgPath := "runtime", byteOffset := 0 }, { name := "concrete", type := 17, offset := 1, embedded := false, tag := "", pkgPath := "runtime", byteOffset := 8 }, { name := "asserted", type := 17, offset := 2, embedded := false, tag := "", pkgPath := "runtime", byteOffset := 16 }, { name := "missingMethod", type := 9, offset := 3, embedded := false, tag := "", pkgPath := "runtime", byteOffset := 24 }], size := 4, bytes := 40, zero := Value.agg { toList := [Value.pointer none, Value.pointer none, Value.pointer none, Value.string { data := #[] }] }, eqg := false, stood := true }
  ty208 : T 208 = some { und := TypeDesc.array 0 16, size := 0, bytes := 0, zero := Value.agg #[], eqg := false, stood := false }
  ty209 : T 209 = some { und := TypeDesc.struct #[{ name := "_", type := 208, offset := 0, embedded := false, tag := "", pkgPath := "runtime", byteOffset := 0 }], size := 0, bytes := 0, zero := Value.agg #[], eqg := false, stood := true }
  ty210 : T 210 = some { und := TypeDesc.struct #[{ name := "_", type := 208, offset := 0, embedded := false, tag := "", pkgPath := "runtime", byteOffset := 0 }], size := 0, bytes := 0, zero := Value.agg #[], eqg := false, stood := true }
  ty212 : T 212 = some { und := TypeDesc.int IntKind.u8, size := 1, bytes := 1, zero := Value.int IntKind.u8 0, eqg := false, stood := false }
  ty213 : T 213 = some { und := TypeDesc.int IntKind.u8, size := 1, bytes := 1, zero := Value.int IntKind.u8 0, eqg := false, stood := false }
  ty215 : T 215 = some { und := TypeDesc.int IntKind.i32, size := 1, bytes := 4, zero := Value.int IntKind.i32 0, eqg := false, stood := false }
  ty216 : T 216 = some { und := TypeDesc.int IntKind.i32, size := 1, bytes := 4, zero := Value.int IntKind.i32 0, eqg := false, stood := false }
  ty217 : T 217 = some { und := TypeDesc.struct #[{ name := "Size_", type := 12, offset := 0, embedded := false, tag := "", pkgPath := "", byteOffset := 0 }, { name := "PtrBytes", type := 12, offset := 1, embedded := false, tag := "", pkgPath := "", byteOffset := 8 }, { name := "Hash", type := 115, offset := 2, embedded := false, tag := "", pkgPath := "", byteOffset := 16 }, { name := "TFlag", type := 212, offset := 3, embedded := false, tag := "", pkgPath := "", byteOffset := 20 }, { name := "Align_", type := 5, offset := 4, embedded := false, tag := "", pkgPath := "", byteOffset := 21 }, { name := "FieldAlign_", type := 5, offset := 5, embedded := false, tag := "", pkgPath := "", byteOffset := 22 }, { name := "Kind_", type := 213, offset := 6, embedded := false, tag := "", pkgPath := "", byteOffset := 23 }, { name := "Equal", type := 214, offset := 7, embedded := false, tag := "", pkgPath := "", byteOffset := 24 }, { name := "GCData", type := 165, offset := 8, embedded := false, tag := "", pkgPath := "", byteOffset := 32 }, { name := "Str", type := 215, offset := 9, embedded := false, tag := "", pkgPath := "", byteOffset := 40 }, { name := "PtrToThis", type := 216, offset := 10, embedded := false, tag := "", pkgPath := "", byteOffset := 44 }], size := 11, bytes := 48, zero := Value.agg #[Value.int IntKind.u64 0, Value.int IntKind.u64 0, Value.int IntKind.u32 0, Value.int IntKind.u8 0, Value.int IntKind.u8 0, Value.int IntKind.u8 0, Value.int IntKind.u8 0, Value.nilFunc, Value.pointer none, Value.int IntKind.i32 0, Value.int IntKind.i32 0], eqg := false, stood := true }
  ty218 : T 218 = some { und := TypeDesc.struct #[{ name := "Size_", type := 12, offset := 0, embedded := false, tag := "", pkgPath := "", byteOffset := 0 }, { name := "PtrBytes", type := 12, offset := 1, embedded := false, tag := "", pkgPath := "", byteOffset := 8 }, { name := "Hash", type := 115, offset := 2, embedded := false, tag := "", pkgPath := "", byteOffset := 16 }, { name := "TFlag", type := 212, offset := 3, embedded := false, tag := "", pkgPath := "", byteOffset := 20 }, { name := "Align_", type := 5, offset := 4, embedded := false, tag := "", pkgPath := "", byteOffset := 21 }, { name := "FieldAlign_", type := 5, offset := 5, embedded := false, tag := "", pkgPath := "", byteOffset := 22 }, { name := "Kind_", type := 213, offset := 6, embedded := false, tag := "", pkgPath := "", byteOffset := 23 }, { name := "Equal", type := 214, offset := 7, embedded := false, tag := "", pkgPath := "", byteOffset := 24 }, { name := "GCData", type := 165, offset := 8, embedded := false, tag := "", pkgPath := "", byteOffset := 32 }, { name := "Str", type := 215, offset := 9, embedded := false, tag := "", pkgPath := "", byteOffset := 40 }, { name := "PtrToThis", type := 216, offset := 10, embedded := false, tag := "", pkgPath := "", byteOffset := 44 }], size := 11, bytes := 48, zero := Value.agg #[Value.int IntKind.u64 0, Value.int IntKind.u64 0, Value.int IntKind.u32 0, Value.int IntKind.u8 0, Value.int IntKind.u8 0, Value.int IntKind.u8 0, Value.int IntKind.u8 0, Value.nilFunc, Value.pointer none, Value.int IntKind.i32 0, Value.int IntKind.i32 0], eqg := false, stood := true }
  ty219 : T 219 = some { und := TypeDesc.unsafePointer, size := 1, bytes := 8, zero := Value.pointer none, eqg := false, stood := false }

theorem types : Ty T where
  ty0 := by kernel_rfl
  ty2 := by kernel_rfl
  ty3 := by kernel_rfl
  ty4 := by kernel_rfl
  ty5 := by kernel_rfl
  ty6 := by kernel_rfl
  ty7 := by kernel_rfl
  ty8 := by kernel_rfl
  ty9 := by kernel_rfl
  ty10 := by kernel_rfl
  ty11 := by kernel_rfl
  ty12 := by kernel_rfl
  ty13 := by kernel_rfl
  ty14 := by kernel_rfl
  ty15 := by kernel_rfl
  ty16 := by kernel_rfl
  ty17 := by kernel_rfl
  ty18 := by kernel_rfl
  ty19 := by kernel_rfl
  ty20 := by kernel_rfl
  ty21 := by kernel_rfl
  ty22 := by kernel_rfl
  ty23 := by kernel_rfl
  ty24 := by kernel_rfl
  ty26 := by kernel_rfl
  ty29 := by kernel_rfl
  ty40 := by kernel_rfl
  ty41 := by kernel_rfl
  ty43 := by kernel_rfl
  ty52 := by kernel_rfl
  ty54 := by kernel_rfl
  ty57 := by kernel_rfl
  ty59 := by kernel_rfl
  ty61 := by kernel_rfl
  ty65 := by kernel_rfl
  ty66 := by kernel_rfl
  ty71 := by kernel_rfl
  ty72 := by kernel_rfl
  ty73 := by kernel_rfl
  ty84 := by kernel_rfl
  ty86 := by kernel_rfl
  ty87 := by kernel_rfl
  ty88 := by kernel_rfl
  ty91 := by kernel_rfl
  ty94 := by kernel_rfl
  ty96 := by kernel_rfl
  ty97 := by kernel_rfl
  ty101 := by kernel_rfl
  ty103 := by kernel_rfl
  ty106 := by kernel_rfl
  ty107 := by kernel_rfl
  ty109 := by kernel_rfl
  ty113 := by kernel_rfl
  ty115 := by kernel_rfl
  ty120 := by kernel_rfl
  ty122 := by kernel_rfl
  ty125 := by kernel_rfl
  ty127 := by kernel_rfl
  ty134 := by kernel_rfl
  ty137 := by kernel_rfl
  ty138 := by kernel_rfl
  ty141 := by kernel_rfl
  ty143 := by kernel_rfl
  ty149 := by kernel_rfl
  ty150 := by kernel_rfl
  ty152 := by kernel_rfl
  ty153 := by kernel_rfl
  ty158 := by kernel_rfl
  ty163 := by kernel_rfl
  ty165 := by kernel_rfl
  ty166 := by kernel_rfl
  ty167 := by kernel_rfl
  ty168 := by kernel_rfl
  ty169 := by kernel_rfl
  ty172 := by kernel_rfl
  ty174 := by kernel_rfl
  ty177 := by kernel_rfl
  ty178 := by kernel_rfl
  ty179 := by kernel_rfl
  ty182 := by kernel_rfl
  ty184 := by kernel_rfl
  ty186 := by kernel_rfl
  ty191 := by kernel_rfl
  ty192 := by kernel_rfl
  ty194 := by kernel_rfl
  ty197 := by kernel_rfl
  ty198 := by kernel_rfl
  ty199 := by kernel_rfl
  ty202 := by kernel_rfl
  ty206 := by kernel_rfl
  ty207 := by kernel_rfl
  ty208 := by kernel_rfl
  ty209 := by kernel_rfl
  ty210 := by kernel_rfl
  ty212 := by kernel_rfl
  ty213 := by kernel_rfl
  ty215 := by kernel_rfl
  ty216 := by kernel_rfl
  ty217 := by kernel_rfl
  ty218 := by kernel_rfl
  ty219 := by kernel_rfl

set_option linter.defProp false in
set_option maxRecDepth 10000 in
def Ty.all {T : Tab} (hT : Ty T) := And.intro hT.ty0 (And.intro hT.ty2 (And.intro hT.ty3 (And.intro hT.ty4 (And.intro hT.ty5 (And.intro hT.ty6 (And.intro hT.ty7 (And.intro hT.ty8 (And.intro hT.ty9 (And.intro hT.ty10 (And.intro hT.ty11 (And.intro hT.ty12 (And.intro hT.ty13 (And.intro hT.ty14 (And.intro hT.ty15 (And.intro hT.ty16 (And.intro hT.ty17 (And.intro hT.ty18 (And.intro hT.ty19 (And.intro hT.ty20 (And.intro hT.ty21 (And.intro hT.ty22 (And.intro hT.ty23 (And.intro hT.ty24 (And.intro hT.ty26 (And.intro hT.ty29 (And.intro hT.ty40 (And.intro hT.ty41 (And.intro hT.ty43 (And.intro hT.ty52 (And.intro hT.ty54 (And.intro hT.ty57 (And.intro hT.ty59 (And.intro hT.ty61 (And.intro hT.ty65 (And.intro hT.ty66 (And.intro hT.ty71 (And.intro hT.ty72 (And.intro hT.ty73 (And.intro hT.ty84 (And.intro hT.ty86 (And.intro hT.ty87 (And.intro hT.ty88 (And.intro hT.ty91 (And.intro hT.ty94 (And.intro hT.ty96 (And.intro hT.ty97 (And.intro hT.ty101 (And.intro hT.ty103 (And.intro hT.ty106 (And.intro hT.ty107 (And.intro hT.ty109 (And.intro hT.ty113 (And.intro hT.ty115 (And.intro hT.ty120 (And.intro hT.ty122 (And.intro hT.ty125 (And.intro hT.ty127 (And.intro hT.ty134 (And.intro hT.ty137 (And.intro hT.ty138 (And.intro hT.ty141 (And.intro hT.ty143 (And.intro hT.ty149 (And.intro hT.ty150 (And.intro hT.ty152 (And.intro hT.ty153 (And.intro hT.ty158 (And.intro hT.ty163 (And.intro hT.ty165 (And.intro hT.ty166 (And.intro hT.ty167 (And.intro hT.ty168 (And.intro hT.ty169 (And.intro hT.ty172 (And.intro hT.ty174 (And.intro hT.ty177 (And.intro hT.ty178 (And.intro hT.ty179 (And.intro hT.ty182 (And.intro hT.ty184 (And.intro hT.ty186 (And.intro hT.ty191 (And.intro hT.ty192 (And.intro hT.ty194 (And.intro hT.ty197 (And.intro hT.ty198 (And.intro hT.ty199 (And.intro hT.ty202 (And.intro hT.ty206 (And.intro hT.ty207 (And.intro hT.ty208 (And.intro hT.ty209 (And.intro hT.ty210 (And.intro hT.ty212 (And.intro hT.ty213 (And.intro hT.ty215 (And.intro hT.ty216 (And.intro hT.ty217 (And.intro hT.ty218 (hT.ty219))))))))))))))))))))))))))))))))))))))))))))))))))))))))))))))))))))))))))))))))))))))))))))))))))))

def noQ : FuncId → Bool := fun _ => false
def allQ : FuncId → Bool := fun _ => true

/-- A function of this program, by its body. -/
theorem fw {M : Addr → Option AV} {k : FuncId} {fn : Func} {c : Code} {args : List AV} {H : Heap} {Q : AV → Heap → Prop} (hf : Tryz.prog.funcs[k]? = some fn) (hname : (fn.name == "runtime.NumGoroutine") = false) (hb : fn.body = some c) (hr : codeB noQ T c = true)
    (h : ∀ C L T, Ty T → Wk noQ Tryz.prog T M C L → xC noQ C L T M c (args ++ List.replicate (fn.ntmps - args.length) (.tup [])) H (fun o e h => match o with | .exit _ => False | .normal => ∃ l, resA T M e h fn.results.toList = some l ∧ Q (resultA l) h | .ret => ∃ l, resA T M e h fn.results.toList = some l ∧ Q (resultA l) h) .mk) : SemF Tryz.prog M k args H Q :=
  fn_way sound hf hname hb hr fun C L hW => h C L T types hW

/-- The same, where the calls of its drawn regions are quiet. -/
theorem fq {M : Addr → Option AV} {k : FuncId} {fn : Func} {c : Code} {args : List AV} {H : Heap} {Q : AV → Heap → Prop} (hf : Tryz.prog.funcs[k]? = some fn) (hname : (fn.name == "runtime.NumGoroutine") = false) (hb : fn.body = some c) (hr : codeB allQ T c = true)
    (h : ∀ C L T, Ty T → Wk allQ Tryz.prog T M C L → xC allQ C L T M c (args ++ List.replicate (fn.ntmps - args.length) (.tup [])) H (fun o e h => match o with | .exit _ => False | .normal => ∃ l, resA T M e h fn.results.toList = some l ∧ Q (resultA l) h | .ret => ∃ l, resA T M e h fn.results.toList = some l ∧ Q (resultA l) h) .mk) : SemF Tryz.prog M k args H Q :=
  fn_way sound hf hname hb hr fun C L hW => h C L T types hW

end Go.Proofs.YtpddepehlinfnaaGreatDoor.B
