/- Part of a claim: what a row's reading says of arguments: bytes, numbers. -/
import Derived.Test.YtnmignkabcblgaaDoorB5
import Derived.Test.YtnmignkabcblgaaDoorB6
import Derived.Test.YtnmignkabcblgaaDoorE32
import Derived.Test.YtnmignkabcblgaaDoorC1
import Derived.ChangeSlices
set_option linter.unusedSimpArgs false
set_option linter.unusedVariables false
namespace Go.Proofs.YtnmignkabcblgaaDoor.C
open Go Go.RowKit Go.Proofs.YtnmignkabcblgaaDoor.E Go.Proofs.YtnmignkabcblgaaDoor.B Go.ChangeShapes Go.WideShapes Go.ChangeAt

theorem lits_bulk {H : Type} (k : IntKind) : ∀ zs : List Int, Rows.uptoBulkAll (lits k zs : List (DataW H)) = zs.length
  | [] => rfl
  | z :: zs => by
    have := lits_bulk (H := H) k zs
    show Rows.uptoBulk (DataW.lit (.int k z)) + Rows.uptoBulkAll (lits k zs) = _
    rw [this]
    simp only [Rows.uptoBulk, List.length_cons]
    omega

set_option maxRecDepth 100000 in
/-- A row of bytes, opened. -/
theorem open_bytes {H : Type} {enc : TypeId × Value → H} {W : World} {r : Reach} {b0 : Nat} {v : Value} {d : DataW H} {ps : List MemPlace} (hval : Value.okWide Tryd.prog W r b0 24 v) (h : DataW.Trod enc Tryd.prog W 0 (fun _ => true) true 24 v d ps) :
    ∃ bs : List UInt8, (∀ G, Sees (oldM W) G 1 (absC v) (cellsB bs)) ∧ Capped (absC v) ∧ bs.length ≤ Rows.uptoBulk d := by
  have hu : Tryd.prog.underlying 24 = some (.slice 5) := by kernel_rfl
  obtain ⟨a0, n0, c0, rfl⟩ := okWide_slice hu hval
  obtain ⟨fuel, h⟩ := h
  rcases open_ints (k := .u8) hu (by kernel_rfl) (by kernel_rfl) h with ⟨h0, h1⟩ | ⟨a, len, cap, zs, hcs, _, hlc, _, hzl, hx, hget, hwf⟩
  · have e : (Value.slice a0 n0 c0) = .slice none 0 0 := by
      have : [Value.slice a0 n0 c0] = [Value.slice none 0 0] := h0
      simpa using this
    rw [e]
    exact ⟨[], fun G => .nil, (by intro b e off s n c hh; cases hh), by simp⟩
  · have e : (Value.slice a0 n0 c0) = .slice (some a) len cap := by
      have : [Value.slice a0 n0 c0] = [Value.slice (some a) len cap] := hcs
      simpa using this
    rw [e]
    have hd : d = .slice (lits .u8 (zs.take len)) (lits .u8 (zs.drop len)) := congrArg Prod.fst hx
    have hzl' : zs.length = cap := by simpa using hzl
    refine ⟨(zs.take len).map fun z => UInt8.ofNat z.toNat, fun G => .old a len cap _ (by simp; omega) ?_ hlc, (by intro b e off s n c hh; cases hh), ?_⟩
    · intro i x hx2
      have hi : i < len := by
        have := (List.getElem?_eq_some_iff.1 hx2).1
        simp at this; omega
      have hg := hget i (by omega)
      have hz : zs[i]? = some (zs.getD i 0) := by
        rw [List.getD_eq_getElem?_getD, List.getElem?_eq_getElem (by omega)]; rfl
      have hmem : zs.getD i 0 ∈ zs := List.mem_of_getElem? hz
      have hw := hwf _ hmem
      have hr : 0 ≤ zs.getD i 0 ∧ zs.getD i 0 < 256 := by
        have : (decide (IntKind.min .u8 ≤ zs.getD i 0) && decide (zs.getD i 0 ≤ IntKind.max .u8)) = true := hw
        simp only [Bool.and_eq_true, decide_eq_true_eq] at this
        have h1 : IntKind.min .u8 = 0 := by decide
        have h2 : IntKind.max .u8 = 255 := by decide
        omega
      unfold oldM
      rw [hg]
      have : x = .int .u8 (zs.getD i 0) := by
        rw [List.getElem?_map, List.getElem?_map, List.getElem?_take, if_pos hi, hz] at hx2
        simp only [Option.map_some, Option.some.injEq] at hx2
        rw [← hx2]
        unfold u8
        congr 1
        simp only [UInt8.toNat_ofNat']
        omega
      rw [this]; rfl
    · rw [hd]
      simp only [Rows.uptoBulk, lits_bulk, List.length_map]
      omega

set_option maxRecDepth 100000 in
/-- A number, opened. -/
theorem open_num {H : Type} {enc : TypeId × Value → H} {W : World} {r : Reach} {b0 : Nat} {v : Value} {d : DataW H} {ps : List MemPlace} {t : TypeId} {k : IntKind} (hu : Tryd.prog.underlying t = some (.int k)) (hval : Value.okWide Tryd.prog W r b0 t v) (h : DataW.Trod enc Tryd.prog W 0 (fun _ => true) true t v d ps) :
    ∃ n, v = .int k n ∧ (Lit.int k n).wf = true := by
  obtain ⟨n, rfl⟩ := okWide_int hu hval
  obtain ⟨fuel, h⟩ := h
  obtain ⟨m, h1, _, h3⟩ := DataW.trod_int hu h
  have : [Value.int k n] = [Value.int k m] := h1
  simp only [List.cons.injEq, Value.int.injEq, true_and, and_true] at this
  exact ⟨n, rfl, this ▸ h3⟩

end Go.Proofs.YtnmignkabcblgaaDoor.C
