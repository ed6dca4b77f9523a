/- Part of a claim: the law ScalarPrints. -/
import Derived.Test.YtpddepehlinfnaaGreatDoorPS40
set_option linter.unusedSimpArgs false
set_option linter.unusedVariables false
set_option maxRecDepth 100000
set_option maxHeartbeats 10000000
namespace Go.Proofs.YtpddepehlinfnaaGreatDoor.B
open Go Go.RowKit Go.Proofs.YtpddepehlinfnaaGreatDoor.E Go.Proofs.YtpddepehlinfnaaGreatDoor.FL

/-- What the row lists of the table of powers. -/
theorem pow_ok {W : World} (h : laidMet Tryz.prog laidL W) : Pow (oldM W) := by
  have hl : tab_internal_strconv_uint64pow10 = Lib.pow10Tab.map (AV.int .u64) := by rfl
  have hcell : ∀ (i : Nat) (z : Int), Lib.pow10Tab[i]? = some z → oldM W ⟨6, i, none⟩ = some (.int .u64 z) := fun i z hz => by
    refine tabs_ok h _ _ ?_
    have e : tabM ⟨6, i, none⟩ = tab_internal_strconv_uint64pow10[i]? := rfl
    rw [e, hl, List.getElem?_map, hz]
    rfl
  have hpl : plainB W 6 = true := by
    have := tabs_ok h ⟨6, 0, some 0⟩ .nilptr rfl
    simp [oldM] at this
    exact this
  have hsz : sizeB W 6 = 20 := by
    obtain ⟨ps, hL, _⟩ := h
    obtain ⟨g, t, cs, fuel, p, h1, h2, h3, h4⟩ := laidVars_mem hL 8 _ _ rfl
    have hg : Tryz.prog.globalNamed "internal/strconv.uint64pow10" = some 6 := by kernel_rfl
    obtain rfl : 6 = g := Option.some.inj (hg.symm.trans h1)
    have ht : (Tryz.prog.globals[6]?).map (·.type) = some 158 := by kernel_rfl
    obtain rfl : 158 = t := Option.some.inj (ht.symm.trans h2)
    have hc := flatD_ok 6 158 _ tab_internal_strconv_uint64pow10 fuel cs.toList p (by kernel_rfl) h4
    have hlen := congrArg List.length hc
    rw [List.length_map, Array.length_toList] at hlen
    have h20 : cs.size = 20 := hlen.trans rfl
    unfold World.var? at h3
    rw [hg] at h3
    simp only [Option.bind_some] at h3
    unfold sizeB
    split at h3
    · rename_i cs' t' fr hh
      cases h3
      rw [hh]
      exact h20
    · cases h3
  refine ⟨⟨.nilptr, ?_⟩, hcell⟩
  simp [oldM, hpl, hsz]

end Go.Proofs.YtpddepehlinfnaaGreatDoor.B
