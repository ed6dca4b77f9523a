/- Part of a claim: what the row lists of the library's tables and errors. -/
import Derived.Test.YtaaecodkdgkjoaaDoorPT14
set_option linter.unusedSimpArgs false
set_option linter.unusedVariables false
set_option maxRecDepth 100000
namespace Go.Proofs.YtaaecodkdgkjoaaDoor.B
open Go Go.RowKit Go.Proofs.YtaaecodkdgkjoaaDoor.E

theorem pow_ok {W : World} (h : laidMet Tryd.prog laidL W) : Pow (oldM W) := by
  have hl : tab_internal_strconv_uint64pow10 = Lib.pow10Tab.map (AV.int .u64) := by rfl
  have hcell : ∀ (i : Nat) (z : Int), Lib.pow10Tab[i]? = some z → oldM W ⟨5, i, none⟩ = some (.int .u64 z) := fun i z hz => by
    refine tabs_ok h _ _ ?_
    have e : tabM ⟨5, i, none⟩ = tab_internal_strconv_uint64pow10[i]? := rfl
    rw [e, hl, List.getElem?_map, hz]
    rfl
  have hpl : plainB W 5 = true := by
    have := tabs_ok h ⟨5, 0, some 0⟩ .nilptr rfl
    simp [oldM] at this
    exact this
  have hsz : sizeB W 5 = 20 := by
    obtain ⟨ps, hL, _⟩ := h
    obtain ⟨g, t, cs, fuel, p, h1, h2, h3, h4⟩ := laidVars_mem hL 2 _ _ rfl
    have hg : Tryd.prog.globalNamed "internal/strconv.uint64pow10" = some 5 := by kernel_rfl
    obtain rfl : 5 = g := Option.some.inj (hg.symm.trans h1)
    obtain ⟨t0, ht0⟩ : ∃ t0, t0 = t := ⟨_, rfl⟩
    have ht : (Tryd.prog.globals[5]?).map (·.type) = some 134 := by kernel_rfl
    obtain rfl : 134 = t := Option.some.inj (ht.symm.trans h2)
    have hc := flatD_ok 6 134 _ tab_internal_strconv_uint64pow10 fuel cs.toList p (by kernel_rfl) h4
    have hlen := congrArg List.length hc
    rw [List.length_map, Array.length_toList] at hlen
    have h20 : cs.size = 20 := hlen.trans rfl
    unfold World.var? at h3
    rw [hg] at h3
    simp only [Option.bind_some] at h3
    unfold sizeB
    split at h3
    · rename_i cs' t' fr hh
      cases h3
      rw [hh]
      exact h20
    · cases h3
  refine ⟨⟨.nilptr, ?_⟩, hcell⟩
  simp [oldM, hpl, hsz]

theorem err_ok {W : World} (h : laidMet Tryd.prog laidL W) {i g : Nat} {n : String} {d : DataW Unit} {tn : String} (hi : laidL[i]? = some (n, .iface tn d)) (hg : Tryd.prog.globalNamed n = some g) (ht : (Tryd.prog.globals[g]?).map (·.type) = some 66) : Err (oldM W) g := by
  obtain ⟨ps, hL, _⟩ := h
  obtain ⟨g', t, cs, fuel, p, h1, h2, h3, h4⟩ := laidVars_mem hL i _ _ hi
  obtain rfl : g = g' := Option.some.inj (hg.symm.trans h1)
  obtain rfl : 66 = t := Option.some.inj (ht.symm.trans h2)
  have hu : Tryd.prog.underlying 66 = _ := Tryd.underlying66
  have hc : ∃ t y, cs.toList = [.iface t y] := by
    cases fuel with
    | zero => simp [DataW.trod] at h4
    | succ f =>
      unfold DataW.trod at h4
      rw [hu] at h4
      split at h4 <;> first | (rename_i hh; exact ⟨_, _, hh⟩) | simp_all
  obtain ⟨t, y, hcs⟩ := hc
  refine ⟨t, y, ?_⟩
  have hcell : W.cell? ⟨g, 0, none⟩ = some (.iface t y) := by
    have hcs2 : cs = #[.iface t y] := Array.ext' hcs
    unfold World.var? at h3
    rw [hg] at h3
    simp only [Option.bind_some] at h3
    unfold World.cell?
    split at h3
    · rename_i cs' t' fr hh
      cases h3
      rw [hh, hcs2]
      rfl
    · cases h3
  unfold oldM
  rw [if_neg (by simp), hcell]
  rfl

end Go.Proofs.YtaaecodkdgkjoaaDoor.B
