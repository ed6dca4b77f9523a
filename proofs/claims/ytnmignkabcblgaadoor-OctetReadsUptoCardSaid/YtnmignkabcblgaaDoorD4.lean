/- Part of a claim: what a row's reading says of arguments: a row of whole numbers. For every input of the bulk that the row allows OctetReads answers true, and its arguments read as they did: the card. Conditions: the row's own (the two tables of unicode/utf8 hold what the row lists; the bound on the bulk). -/
import Derived.Test.YtnmignkabcblgaaDoorC20
import Derived.Test.YtnmignkabcblgaaDoorCards
import Derived.Test.YtnmignkabcblgaaDoorTie
import Derived.Test.YtnmignkabcblgaaDoorD3
set_option linter.unusedSimpArgs false
set_option linter.unusedVariables false
namespace Go.Proofs.YtnmignkabcblgaaDoor.C
open Go Go.RowKit Go.Proofs.YtnmignkabcblgaaDoor.E Go.Proofs.YtnmignkabcblgaaDoor.B Go.ChangeShapes Go.WideShapes Go.ChangeAt

set_option maxRecDepth 100000 in
/-- A row of numbers of the kind int, opened. -/
theorem open_ints64 {H : Type} {enc : TypeId × Value → H} {W : World} {r : Reach} {b0 : Nat} {v : Value} {d : DataW H} {ps : List MemPlace} (hval : Value.okWide Tryd.prog W r b0 60 v) (h : DataW.Trod enc Tryd.prog W 0 (fun _ => true) true 60 v d ps) :
    ∃ ks : List Int, (∀ G, Sees (oldM W) G 1 (absC v) (ks.map fun k => AV.int .i64 k)) ∧ ks.length ≤ Rows.uptoBulk d := by
  have hu : Tryd.prog.underlying 60 = some (.slice 3) := by kernel_rfl
  obtain ⟨a0, n0, c0, rfl⟩ := okWide_slice hu hval
  obtain ⟨fuel, h⟩ := h
  rcases open_ints (k := .i64) hu (by kernel_rfl) (by kernel_rfl) h with ⟨h0, h1⟩ | ⟨a, len, cap, zs, hcs, _, hlc, _, hzl, hx, hget, hwf⟩
  · have e : (Value.slice a0 n0 c0) = .slice none 0 0 := by
      have : [Value.slice a0 n0 c0] = [Value.slice none 0 0] := h0
      simpa using this
    rw [e]
    exact ⟨[], fun G => .nil, by simp⟩
  · have e : (Value.slice a0 n0 c0) = .slice (some a) len cap := by
      have : [Value.slice a0 n0 c0] = [Value.slice (some a) len cap] := hcs
      simpa using this
    rw [e]
    have hd : d = .slice (lits .i64 (zs.take len)) (lits .i64 (zs.drop len)) := congrArg Prod.fst hx
    have hzl' : zs.length = cap := by simpa using hzl
    refine ⟨zs.take len, fun G => .old a len cap _ (by simp; omega) ?_ hlc, ?_⟩
    · intro i x hx2
      have hi : i < len := by
        have := (List.getElem?_eq_some_iff.1 hx2).1
        simp at this; omega
      have hg := hget i (by omega)
      have hz : zs[i]? = some (zs.getD i 0) := by
        rw [List.getD_eq_getElem?_getD, List.getElem?_eq_getElem (by omega)]; rfl
      unfold oldM
      rw [hg]
      have : x = .int .i64 (zs.getD i 0) := by
        rw [List.getElem?_map, List.getElem?_take, if_pos hi, hz] at hx2
        simp only [Option.map_some, Option.some.injEq] at hx2
        exact hx2.symm
      rw [this]; rfl
    · rw [hd]
      simp only [Rows.uptoBulk, lits_bulk]
      omega

end Go.Proofs.YtnmignkabcblgaaDoor.C

namespace Go.Proofs.YtnmignkabcblgaaDoor.octetReads
open Go Go.RowKit Go.Proofs.YtnmignkabcblgaaDoor.E Go.Proofs.YtnmignkabcblgaaDoor.B Go.Proofs.YtnmignkabcblgaaDoor.C Go.ChangeShapes Go.WideShapes Go.ChangeAt
set_option maxRecDepth 100000

theorem run (W : World) (hL : laidMet Tryd.prog Rows.octetNobodyRow.laid W) {H : Type} {enc : TypeId × Value → H} {base : Nat} {v0 v1 : Value} {d0 d1 : DataW H} {p0 p1 : List MemPlace} (hv0 : Value.okWide Tryd.prog W .any base 24 v0) (h0 : DataW.Trod enc Tryd.prog W 0 (fun _ => true) true 24 v0 d0 p0)
    (hv1 : Value.okWide Tryd.prog W .any base 60 v1) (h1 : DataW.Trod enc Tryd.prog W 0 (fun _ => true) true 60 v1 d1 p1) (hb : Rows.uptoBulk d0 + Rows.uptoBulk d1 ≤ 1048576) :
    Calls Tryd.prog 6 #[v0, v1] W fun e W' => e = .returned (.bool true) ∧ Below W.heap.size W W' := by
  obtain ⟨bs, hs, hc, hl⟩ := open_bytes hv0 h0
  obtain ⟨ks, hk, hkl⟩ := open_ints64 hv1 h1
  have h := lawReads (oldM W) (tabs hL) (absC v0) (absC v1) bs ks hs hk (by omega) (by omega) W W (fun _ _ => none) #[v0, v1] (oldM_ok W) (Rel.start W) (by
    simp only [VRs]
    exact ⟨_, _, rfl, VR_absC _ _, _, _, rfl, VR_absC _ _, rfl⟩)
  refine (h.calls Tryd.func6 (by kernel_rfl) rfl).mono fun e W' he => ?_
  cases e with
  | returned cv =>
    obtain ⟨v, H', ρ', rfl, _, hv, hr⟩ := he
    simp only [VR] at hv
    exact ⟨by rw [hv], hr.below⟩
  | panicked => exact he.elim
  | outgrown => exact he.elim


set_option maxRecDepth 100000 in
theorem contract (H : Type) (enc : TypeId × Value → H) (W : World) (base : Nat) (args : Array Value) (ds gs : List (DataW H)) (before : List MemPlace)
    (hval : ∀ (j : Nat) t v, Tryd.f6.params[j]? = some t → args[j]? = some v → Value.okWide Tryd.prog W .any base t v)
    (hW : DataW.Whole enc Tryd.prog Tryd.f6.params.toList Rows.octetReadsSpec.vars false W args.toList ds gs before) (hk : Rows.uptoSmall H (ds ++ gs) = true) (hL : laidMetH Tryd.prog Rows.octetReadsUptoRow.laid W) :
    Calls Tryd.prog 6 args W fun e W' => ∃ v, e = .returned v ∧ Rows.octetReadsSpec.post enc Tryd.prog Tryd.f6 false true false false W args v W' := by
  have hW' := hW
  obtain ⟨p, q, hA0, hV, rfl, hfz, hnd⟩ := hW
  have hA : DataW.TrodAll enc Tryd.prog W 0 (fun _ => true) true [24, 60] args.toList ds p := hA0
  have hbulk : Rows.uptoBulkAll (ds ++ gs) ≤ 1048576 := of_decide_eq_true hk
  obtain ⟨v0, vs0, d0, ds0, p0, q0, hargs0, hds0, hps0, h0, r0⟩ := trodAll_cons hA
  obtain ⟨v1, vs1, d1, ds1, p1, q1, hargs1, hds1, hps1, h1, r1⟩ := trodAll_cons r0
  obtain ⟨e1, e2, e3⟩ := trodAll_nil r1
  subst hds0
  subst hds1
  obtain rfl : args = #[v0, v1] := by
    refine Array.ext' ?_
    rw [hargs0, hargs1, e1]
  subst e2
  obtain ⟨rfl, rfl⟩ := trodVars_none hV
  have hv0 := hval 0 24 v0 rfl rfl
  have hv1 := hval 1 60 v1 rfl rfl
  simp only [List.cons_append, List.nil_append, Rows.uptoBulkAll] at hbulk
  have run := run W hL hv0 h0 hv1 h1 (by omega)
  refine run.mono fun e W' ⟨he, hb⟩ => ⟨.bool true, he, ?_⟩
  exact post_plain (tb := 4) (m := 9) hW' hb (by kernel_rfl) rfl rfl (by kernel_rfl) rfl rfl rfl

theorem own : ownKnob Tryd.prog.godebug = none := by kernel_rfl

def fill (l : List Int) : Obj → Obj
  | .cells _ t frozen => .cells (l.map fun n => Value.int .u8 n).toArray t frozen
  | o => o

noncomputable def laidWorld (os : Os) : World :=
  { World.holding Tryd.prog os ⟨#[], #[], []⟩ with heap := ((World.holding Tryd.prog os ⟨#[], #[], []⟩).heap.modify 2 (fill accept)).modify 1 (fill u8first) }

theorem laid_met (os : Os) : laidMet Tryd.prog Rows.octetReadsUptoRow.laid ((laidWorld os).forCall (fun _ _ => 0) ⟨#[], #[.slice none 0 0, .slice none 0 0], []⟩).memory :=
  laidMet_of_run' 8 (by kernel_rfl) (by kernel_rfl)
theorem reads (os : Os) {H : Type} (enc : TypeId × Value → H) : ∃ places, DataW.whole enc Tryd.prog ((laidWorld os).forCall (fun _ _ => 0) ⟨#[], #[.slice none 0 0, .slice none 0 0], []⟩).memory Tryd.f6.params.toList Rows.octetReadsSpec.vars false #[.slice none 0 0, .slice none 0 0].toList 8 = some ([.nil, .nil], [], places) :=
  ⟨[], by kernel_rfl⟩

set_option maxRecDepth 100000 in
theorem lifted (os : Os) (started : os.Started) (H : Type) (enc : TypeId × Value → H) (F : Stop.Interp) :
    ReturnsInHanded {} Tryd.checked os 6 .any ((Rows.OpenSpec.upto Rows.octetReadsSpec).preRow enc Tryd.prog Tryd.f6 Rows.octetReadsUptoRow.domain false Rows.octetReadsUptoRow.laid) (((Rows.OpenSpec.upto Rows.octetReadsSpec).at F).post enc Tryd.prog Tryd.f6 false true false false) := by
  obtain ⟨places, hx⟩ := reads os enc
  refine returnsInHanded_of_row (C := Tryd.checked) (s := Rows.OpenSpec.upto Rows.octetReadsSpec) own started (by kernel_rfl) Tryd.func6
    (witness_row_at (enc := enc) (C := Tryd.checked) false (laidWorld os) #[.slice none 0 0, .slice none 0 0] rfl (by kernel_rfl) (by kernel_rfl) (by kernel_rfl)
      (OpenSpec.preRow_of_cond 8 hx (by kernel_rfl) (fun k hk => by cases hk; kernel_rfl) (by kernel_rfl) (laid_met os))) ?_
  intro W base args ds gs before hval hW _ hcond _ hL _ _
  exact contract H enc W base args ds gs before hval hW (hcond _ rfl) hL

theorem said : Rows.OctetReadsUptoSaid :=
  OpenClaim.holds_of_cond 6 Tryd.f6 rfl rfl rfl rfl rfl rfl rfl ⟨rfl, rfl, rfl, rfl, rfl⟩ rfl rfl rfl rfl rfl (by kernel_rfl) Tryd.func6 (by kernel_rfl)
    (of_decide_eq_true (by kernel_rfl)) (by unfold Func.isWrapper; first | (rw [if_pos (by decide +kernel)]; kernel_rfl) | (rw [if_neg (by decide +kernel)]; exact ⟨rfl, rfl⟩))
    (fun os started H enc _ F => by rw [OpenClaim.pre_eq_preRow]; exact lifted os started H enc F)

theorem plain (f : FuncId) (fn : Func) (hf : Tryd.pinned.checked.prog.funcNamed "phasor/phasorlaw01.OctetReads" = some f) (hfn : Tryd.pinned.checked.prog.funcs[f]? = some fn) :
    false = Tryd.pinned.checked.prog.looks [] ∧ ∀ (j : Nat) t, fn.params[j]? = some t → Tryd.pinned.checked.prog.wantsStandIn t = false := by
  obtain rfl : f = 6 := Option.some.inj ((show Tryd.prog.funcNamed "phasor/phasorlaw01.OctetReads" = some 6 by kernel_rfl).symm.trans hf) |>.symm
  obtain rfl : fn = Tryd.f6 := (Option.some.inj (Tryd.func6.symm.trans hfn)).symm
  refine ⟨by kernel_rfl, fun j t ht => ?_⟩
  have hall : (#[24, 60].toList.all fun t => Tryd.prog.wantsStandIn t == false) = true := by kernel_rfl
  have := List.all_eq_true.1 hall t (by rw [Array.mem_toList_iff]; exact Array.mem_of_getElem? (show #[24, 60][j]? = some t from ht))
  exact eq_of_beq this

theorem card : Rows.OctetReadsUptoCardSaid :=
  Claim7.holds_tied_plain_at .later [] _ _ _ _ said (fun _ h => by cases h) (by kernel_rfl) (fun _ h => by cases h) octetReadsUpto_row_tie rfl ⟨rfl, rfl⟩ (by kernel_rfl) rfl plain (by kernel_rfl)

end Go.Proofs.YtnmignkabcblgaaDoor.octetReads
