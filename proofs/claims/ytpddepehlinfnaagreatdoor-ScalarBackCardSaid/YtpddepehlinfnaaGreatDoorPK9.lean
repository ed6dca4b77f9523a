/- ScalarBack: for every input the law answers true, and its arguments read as they did: the card. Conditions: the row's own (the library's variables hold what the row lists). (Printed by gen_card2.py.) -/
import Derived.Test.YtpddepehlinfnaaGreatDoorCards
import Derived.Test.YtpddepehlinfnaaGreatDoorTie
import Derived.Test.YtpddepehlinfnaaGreatDoorPED
import Derived.Test.YtpddepehlinfnaaGreatDoorPW4
import Derived.Test.YtpddepehlinfnaaGreatDoorPS48
set_option linter.unusedSimpArgs false
set_option linter.unusedVariables false
namespace Go.Proofs.YtpddepehlinfnaaGreatDoor.scalarBack
open Go Go.RowKit Go.Proofs.YtpddepehlinfnaaGreatDoor.E Go.Proofs.YtpddepehlinfnaaGreatDoor.B Go.ChangeShapes Go.WideShapes Go.ChangeAt
set_option maxRecDepth 100000

theorem rngU {n : Int} (h : IntKind.u64.min ≤ n ∧ n ≤ IntKind.u64.max) : ∃ b : Nat, n = b ∧ b < 18446744073709551616 := by
  have h1 : IntKind.u64.min = 0 := by decide
  have h2 : IntKind.u64.max = 18446744073709551615 := by decide
  exact ⟨n.toNat, by omega, by omega⟩

theorem run (W : World) (hL : laidMet Tryz.prog laidL W) {H : Type} {enc : TypeId × Value → H} {base : Nat} {v0 : Value} {d0 : DataW H} {p0 : List MemPlace}
    (hv0 : Value.okWide Tryz.prog W .any base 23 v0) (h0 : DataW.Trod enc Tryz.prog W 0 (fun _ => true) true 23 v0 d0 p0) :
    Calls Tryz.prog 13 #[v0] W fun e W' => e = .returned (.bool true) ∧ Below W.heap.size W W' := by
  obtain ⟨n0, rfl, r0⟩ := open_num (k := .u64) (by kernel_rfl) hv0 h0
  obtain ⟨b0, rfl, c0⟩ := rngU r0
  refine run_true (args := [.int .u64 b0]) Tryz.func13 (by kernel_rfl) rfl (oldM_ok W) (lawBack (oldM W) (tabs_ok hL) (pow_ok hL) c0) ?_
  simp only [VRs]
  refine ⟨_, _, rfl, ?_, rfl⟩ <;> simp only [VR]

set_option maxRecDepth 100000 in
theorem contract (H : Type) (enc : TypeId × Value → H) (W : World) (base : Nat) (args : Array Value) (ds gs : List (DataW H)) (before : List MemPlace)
    (hval : ∀ (j : Nat) t v, Tryz.f13.params[j]? = some t → args[j]? = some v → Value.okWide Tryz.prog W .any base t v)
    (hW : DataW.Whole enc Tryz.prog Tryz.f13.params.toList Rows.scalarBackSpec.vars false W args.toList ds gs before) (hL : laidMetH Tryz.prog Rows.scalarBackRow.laid W) :
    Calls Tryz.prog 13 args W fun e W' => ∃ v, e = .returned v ∧ Rows.scalarBackSpec.post enc Tryz.prog Tryz.f13 false true false false W args v W' := by
  have hW' := hW
  obtain ⟨p, q, hA0, hV, rfl, hfz, hnd⟩ := hW
  have hA : DataW.TrodAll enc Tryz.prog W 0 (fun _ => true) true [23] args.toList ds p := hA0
  obtain ⟨v0, vs0, d0, ds0, p0, q0, hargs0, hds0, hps0, h0, r0⟩ := trodAll_cons hA
  obtain ⟨e1, e2, e3⟩ := trodAll_nil r0
  subst hds0
  obtain rfl : args = #[v0] := by
    refine Array.ext' ?_
    rw [hargs0, e1]
  subst e2
  obtain ⟨rfl, rfl⟩ := trodVars_none hV
  have hv0 := hval 0 23 v0 rfl rfl
  have run := run W hL hv0 h0
  refine run.mono fun e W' ⟨he, hb⟩ => ⟨.bool true, he, ?_⟩
  exact post_plain (tb := 4) (m := 9) hW' hb (by kernel_rfl) rfl rfl (by kernel_rfl) rfl rfl rfl

theorem own : ownKnob Tryz.prog.godebug = none := by kernel_rfl

theorem reads {H : Type} (enc : TypeId × Value → H) : ∃ places, DataW.whole enc Tryz.prog wm Tryz.f13.params.toList Rows.scalarBackSpec.vars false #[.int .u64 0].toList 8 = some ([.lit (.int .u64 0)], [], places) :=
  ⟨[], by kernel_rfl⟩

set_option maxRecDepth 100000 in
theorem lifted (os : Os) (started : os.Started) (H : Type) (enc : TypeId × Value → H) (F : Stop.Interp) :
    ReturnsInHanded {} Tryz.checked os 13 .any ((OpenSpec.ofChange Rows.scalarBackSpec).preRow enc Tryz.prog Tryz.f13 Rows.scalarBackRow.domain false Rows.scalarBackRow.laid) (((OpenSpec.ofChange Rows.scalarBackSpec).at F).post enc Tryz.prog Tryz.f13 false true false false) := by
  obtain ⟨places, hx⟩ := reads enc
  refine returnsInHanded_of_row (C := Tryz.checked) (s := OpenSpec.ofChange Rows.scalarBackSpec) own started (by kernel_rfl) Tryz.func13
    ⟨laidWorld os, fun _ _ => 0, ⟨#[], #[.int .u64 0], []⟩, rfl, shaped os _, rfl, (Input.okWide_of_okWideB (by kernel_rfl)).2, ?_, ?_⟩ ?_
  · rw [call_memory]
    exact OpenSpec.preRow_of_cond 8 hx (by kernel_rfl) (fun k hk => by cases hk) (by kernel_rfl) laid_met
  · simp only [Assume.holds]
    exact ⟨by simp, by simp, fun _ => Modest.zero, by simp, by simp⟩
  intro W base args ds gs before hval hW _ hcond _ hL _ _
  exact contract H enc W base args ds gs before hval hW hL

theorem said : Rows.ScalarBackSaid :=
  OpenClaim.holds_of_cond 13 Tryz.f13 rfl rfl rfl rfl rfl rfl rfl ⟨rfl, rfl, rfl, rfl, rfl⟩ rfl rfl rfl rfl rfl (by kernel_rfl) Tryz.func13 (by kernel_rfl)
    (of_decide_eq_true (by kernel_rfl)) (by unfold Func.isWrapper; first | (rw [if_pos (by decide +kernel)]; kernel_rfl) | (rw [if_neg (by decide +kernel)]; exact ⟨rfl, rfl⟩))
    (fun os started H enc _ F => by rw [OpenClaim.pre_eq_preRow]; exact lifted os started H enc F)

theorem plain (f : FuncId) (fn : Func) (hf : Tryz.pinned.checked.prog.funcNamed "phasor/phasorlaw02.ScalarBack" = some f) (hfn : Tryz.pinned.checked.prog.funcs[f]? = some fn) :
    true = Tryz.pinned.checked.prog.looks [] ∧ ∀ (j : Nat) t, fn.params[j]? = some t → Tryz.pinned.checked.prog.wantsStandIn t = false := by
  obtain rfl : f = 13 := Option.some.inj ((show Tryz.prog.funcNamed "phasor/phasorlaw02.ScalarBack" = some 13 by kernel_rfl).symm.trans hf) |>.symm
  obtain rfl : fn = Tryz.f13 := (Option.some.inj (Tryz.func13.symm.trans hfn)).symm
  refine ⟨by kernel_rfl, fun j t ht => ?_⟩
  have hall : (#[23].toList.all fun t => Tryz.prog.wantsStandIn t == false) = true := by kernel_rfl
  have := List.all_eq_true.1 hall t (by rw [Array.mem_toList_iff]; exact Array.mem_of_getElem? (show #[23][j]? = some t from ht))
  exact eq_of_beq this

theorem card : Rows.ScalarBackCardSaid :=
  Claim7.holds_tied_plain_at .later [] _ _ _ _ said (fun _ h => by cases h) (by kernel_rfl) (fun _ h => by cases h) scalarBack_row_tie rfl ⟨rfl, rfl⟩ (by kernel_rfl) rfl plain (by kernel_rfl)

end Go.Proofs.YtpddepehlinfnaaGreatDoor.scalarBack
