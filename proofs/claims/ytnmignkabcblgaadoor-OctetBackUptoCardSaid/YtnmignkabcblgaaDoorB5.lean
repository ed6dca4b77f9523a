/- Part of a claim: the two tables of the library hold what the rows list. -/
import Derived.Test.YtnmignkabcblgaaDoorB3
import Derived.Test.YtnmignkabcblgaaDoorEB
import Derived.Test.YtnmignkabcblgaaDoorRows
set_option linter.unusedSimpArgs false
set_option linter.unusedVariables false
namespace Go.Proofs.YtnmignkabcblgaaDoor.B
open Go Go.RowKit Go.Proofs.YtnmignkabcblgaaDoor.E Go.ChangeShapes

def acceptPairs : List (Int × Int) := [(128, 191), (160, 191), (128, 159), (144, 191), (128, 143)] ++ List.replicate 11 (0, 0)

theorem accept_pairs : ((List.range 32).all fun j => match acceptPairs[j / 2]? with | some z => if j % 2 = 0 then accept[j]? == some z.1 else accept[j]? == some z.2 | none => false) = true := by kernel_rfl

theorem tabs {W : World} (h : laidMet Tryd.prog Rows.octetNobodyRow.laid W) : ∀ a v, tabM a = some v → oldM W a = some v := by
  obtain ⟨ps, ⟨g1, t1, cs1, fuel1, p1, q1, hg1, ht1, hv1, hd1, ⟨g2, t2, cs2, fuel2, p2, q2, hg2, ht2, hv2, hd2, _, _⟩, _⟩, _⟩ := h
  obtain rfl : g1 = 2 := Option.some.inj (hg1.symm.trans (by kernel_rfl))
  obtain rfl : g2 = 1 := Option.some.inj (hg2.symm.trans (by kernel_rfl))
  obtain rfl : t1 = 119 := Option.some.inj (ht1.symm.trans (by kernel_rfl))
  obtain rfl : t2 = 116 := Option.some.inj (ht2.symm.trans (by kernel_rfl))
  have e1 : (Rows.laid_unicode_utf8_acceptRanges : DataW Unit) = .agg (acceptPairs.map fun z => .agg [.lit (.int .u8 z.1), .lit (.int .u8 z.2)]) := by kernel_rfl
  have e2 : Rows.laid_unicode_utf8_first = Lib.tabData .u8 u8first := by kernel_rfl
  rw [e1] at hd1
  rw [e2] at hd2
  have k1 := fun i z hz => cells_of_pairs (f0 := { name := "lo", type := 5, offset := 0, embedded := false, tag := "", pkgPath := "unicode/utf8", byteOffset := 0 }) (f1 := { name := "hi", type := 5, offset := 1, embedded := false, tag := "", pkgPath := "unicode/utf8", byteOffset := 1 }) (k := .u8) (zs := acceptPairs) (n := 16) (e := 118) (t := 119) (P := Tryd.prog) (by kernel_rfl) (by kernel_rfl) (by kernel_rfl) (by kernel_rfl) (by kernel_rfl) (by kernel_rfl) (by kernel_rfl) (by kernel_rfl) (by kernel_rfl) hd1 i z hz
  have k2 := Lib.cells_of_tab (k := .u8) (zs := u8first) (n := 256) (e := 5) (t := 116) (P := Tryd.prog) (by kernel_rfl) (by kernel_rfl) (by kernel_rfl) (by kernel_rfl) hd2
  intro a v hv
  obtain ⟨b, off, sp⟩ := a
  unfold tabM at hv
  simp only at hv
  unfold oldM
  split at hv
  · cases hv
  · rename_i hsp
    have hs0 : sp = none := by cases sp <;> simp_all
    subst hs0
    split at hv
    · rename_i hb
      subst hb
      cases hn : u8first[off]? with
      | none => rw [hn] at hv; cases hv
      | some n =>
        rw [hn] at hv; cases hv
        have h3 := World.var?_cell hg2 hv2 off
        have h4 : cs2[off]? = some (.int .u8 n) := by
          rw [← Array.getElem?_toList, k2, List.getElem?_map, hn]; rfl
        rw [h3, h4]; rfl
    · split at hv
      · rename_i hb
        subst hb
        cases hn : accept[off]? with
        | none => rw [hn] at hv; cases hv
        | some n =>
          rw [hn] at hv; cases hv
          have h3 := World.var?_cell hg1 hv1 off
          have hlt : off < 32 := by
            have := (List.getElem?_eq_some_iff.1 hn).1
            exact this
          have h5 := List.all_eq_true.1 accept_pairs off (List.mem_range.2 hlt)
          split at h5
          · rename_i z hz
            obtain ⟨e0, e1⟩ := k1 (off / 2) z hz
            have h4 : cs1[off]? = some (.int .u8 n) := by
              rw [← Array.getElem?_toList]
              split at h5
              · rename_i hm
                rw [hn] at h5
                have h6 : n = z.1 := by simpa using h5
                rw [show off = 2 * (off / 2) by omega, h6]; exact e0
              · rename_i hm
                rw [hn] at h5
                have h6 : n = z.2 := by simpa using h5
                rw [show off = 2 * (off / 2) + 1 by omega, h6]; exact e1
            rw [h3, h4]; rfl
          · cases h5
      · cases hv

theorem trod_float {H : Type} {enc : TypeId × Value → H} {P : Program} {w : World} {base : Nat} {sp : Nat → Bool} {held : Bool} {fuel : Nat} {t : TypeId} {k : FloatKind} {cs : List Value} {x : DataW H × List MemPlace} (ht : P.underlying t = some (.float k)) (h : DataW.trod enc P w base sp held fuel t cs = some x) : ∃ b, cs = [.float k b] := by
  cases fuel with
  | zero => simp [DataW.trod] at h
  | succ n =>
    unfold DataW.trod at h
    simp only [ht] at h
    split at h <;> simp_all
    all_goals (obtain ⟨⟨rfl, _⟩, _⟩ := h; exact ⟨_, rfl, rfl⟩)

theorem five (l : List Value) (hl : l.length = 5) {a b c d e : Value} (h0 : (l.drop 0).take 1 = [a]) (h1 : (l.drop 1).take 1 = [b]) (h2 : (l.drop 2).take 1 = [c]) (h3 : (l.drop 3).take 1 = [d]) (h4 : (l.drop 4).take 1 = [e]) : l = [a, b, c, d, e] := by
  match l, hl with
  | [a0, a1, a2, a3, a4], _ =>
    simp at h0 h1 h2 h3 h4
    rw [h0, h1, h2, h3, h4]

end Go.Proofs.YtnmignkabcblgaaDoor.B
