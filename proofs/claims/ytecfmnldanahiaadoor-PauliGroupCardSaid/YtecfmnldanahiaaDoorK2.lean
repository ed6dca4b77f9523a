/- PauliGroup: for every input the law answers true, and its arguments read as they did: the card. Conditions: the row's own (the library's variables hold what the row lists). (Printed by gen_card2.py.) -/
import Derived.Test.YtecfmnldanahiaaDoorCards
import Derived.Test.YtecfmnldanahiaaDoorTie
import Derived.Test.YtecfmnldanahiaaDoorED
import Derived.Test.YtecfmnldanahiaaDoorP15
set_option linter.unusedSimpArgs false
set_option linter.unusedVariables false
namespace Go.Proofs.YtecfmnldanahiaaDoor.pauliGroup
open Go Go.RowKit Go.Proofs.YtecfmnldanahiaaDoor.E Go.Proofs.YtecfmnldanahiaaDoor.B Go.ChangeShapes Go.WideShapes Go.ChangeAt
set_option maxRecDepth 100000

theorem rngI {n : Int} (h : IntKind.i64.min ≤ n ∧ n ≤ IntKind.i64.max) : I64 n := by
  have h1 : IntKind.i64.min = -9223372036854775808 := by decide
  have h2 : IntKind.i64.max = 9223372036854775807 := by decide
  unfold I64; omega
theorem rngU {n : Int} (h : IntKind.u64.min ≤ n ∧ n ≤ IntKind.u64.max) : ∃ b : Nat, n = b ∧ b < 18446744073709551616 := by
  have h1 : IntKind.u64.min = 0 := by decide
  have h2 : IntKind.u64.max = 18446744073709551615 := by decide
  exact ⟨n.toNat, by omega, by omega⟩

theorem open_pl {H : Type} {enc : TypeId × Value → H} {W : World} {b0 base : Nat} {v : Value} {d : DataW H} {ps : List MemPlace} (hval : Value.okWide Tryd.prog W .any b0 24 v) (h : DataW.Trod enc Tryd.prog W base (fun _ => true) true 24 v d ps) :
    ∃ (n p : Int) (x z : Nat), v = .agg #[.int .i64 n, .int .u64 x, .int .u64 z, .int .i64 p] ∧ x < 18446744073709551616 ∧ z < 18446744073709551616 := by
  obtain ⟨cs, rfl, hf⟩ := open_struct (n := 3) (l := [.int .i64, .int .u64, .int .u64, .int .i64]) (P := Tryd.prog) (t := 24) (by kernel_rfl) (by kernel_rfl) hval h
  obtain ⟨a, b, e, f, rfl, ra, rb, re, rf⟩ := fit4 hf
  obtain ⟨x, rfl, hx⟩ := rngU rb
  obtain ⟨z, rfl, hz⟩ := rngU re
  exact ⟨a, f, x, z, rfl, hx, hz⟩

theorem vr_pl {ρ : Asg} (n p : Int) (x z : Nat) : VR ρ (pl n x z p) (.agg #[.int .i64 n, .int .u64 x, .int .u64 z, .int .i64 p]) := by
  unfold pl
  simp only [VR]
  refine ⟨_, rfl, ?_⟩
  simp only [VRs]
  refine ⟨_, _, rfl, ?_, _, _, rfl, ?_, _, _, rfl, ?_, _, _, rfl, ?_, rfl⟩ <;> simp only [VR]

theorem run (W : World) (hL : laidMet Tryd.prog laidL W) {H : Type} {enc : TypeId × Value → H} {base : Nat} {v0 v1 v2 : Value} {d0 d1 d2 : DataW H} {p0 p1 p2 : List MemPlace}
    (hv0 : Value.okWide Tryd.prog W .any base 24 v0) (h0 : DataW.Trod enc Tryd.prog W 0 (fun _ => true) true 24 v0 d0 p0)
    (hv1 : Value.okWide Tryd.prog W .any base 24 v1) (h1 : DataW.Trod enc Tryd.prog W 0 (fun _ => true) true 24 v1 d1 p1)
    (hv2 : Value.okWide Tryd.prog W .any base 24 v2) (h2 : DataW.Trod enc Tryd.prog W 0 (fun _ => true) true 24 v2 d2 p2) :
    Calls Tryd.prog 7 #[v0, v1, v2] W fun e W' => e = .returned (.bool true) ∧ Below W.heap.size W W' := by
  obtain ⟨n, p, x, z, rfl, hx, hz⟩ := open_pl hv0 h0
  obtain ⟨n', p', x', z', rfl, hx', hz'⟩ := open_pl hv1 h1
  obtain ⟨n2, p2, x2, z2, rfl, hx2, hz2⟩ := open_pl hv2 h2
  refine run_true (args := [pl n x z p, pl n' x' z' p', pl n2 x2 z2 p2]) Tryd.func7 (by kernel_rfl) rfl (oldM_ok W) (lawGroup (oldM W) (tabs_ok hL) hx hz hx' hz' hx2 hz2) ?_
  simp only [VRs]
  exact ⟨_, _, rfl, vr_pl n p x z, _, _, rfl, vr_pl n' p' x' z', _, _, rfl, vr_pl n2 p2 x2 z2, rfl⟩


set_option maxRecDepth 100000 in
theorem contract (H : Type) (enc : TypeId × Value → H) (W : World) (base : Nat) (args : Array Value) (ds gs : List (DataW H)) (before : List MemPlace)
    (hval : ∀ (j : Nat) t v, Tryd.f7.params[j]? = some t → args[j]? = some v → Value.okWide Tryd.prog W .any base t v)
    (hW : DataW.Whole enc Tryd.prog Tryd.f7.params.toList Rows.pauliGroupSpec.vars false W args.toList ds gs before) (hL : laidMetH Tryd.prog Rows.pauliGroupRow.laid W) :
    Calls Tryd.prog 7 args W fun e W' => ∃ v, e = .returned v ∧ Rows.pauliGroupSpec.post enc Tryd.prog Tryd.f7 false true false false W args v W' := by
  have hW' := hW
  obtain ⟨p, q, hA0, hV, rfl, hfz, hnd⟩ := hW
  have hA : DataW.TrodAll enc Tryd.prog W 0 (fun _ => true) true [24, 24, 24] args.toList ds p := hA0
  obtain ⟨v0, vs0, d0, ds0, p0, q0, hargs0, hds0, hps0, h0, r0⟩ := trodAll_cons hA
  obtain ⟨v1, vs1, d1, ds1, p1, q1, hargs1, hds1, hps1, h1, r1⟩ := trodAll_cons r0
  obtain ⟨v2, vs2, d2, ds2, p2, q2, hargs2, hds2, hps2, h2, r2⟩ := trodAll_cons r1
  obtain ⟨e1, e2, e3⟩ := trodAll_nil r2
  subst hds0
  subst hds1
  subst hds2
  obtain rfl : args = #[v0, v1, v2] := by
    refine Array.ext' ?_
    rw [hargs0, hargs1, hargs2, e1]
  subst e2
  obtain ⟨rfl, rfl⟩ := trodVars_none hV
  have hv0 := hval 0 24 v0 rfl rfl
  have hv1 := hval 1 24 v1 rfl rfl
  have hv2 := hval 2 24 v2 rfl rfl
  have run := run W hL hv0 h0 hv1 h1 hv2 h2
  refine run.mono fun e W' ⟨he, hb⟩ => ⟨.bool true, he, ?_⟩
  exact post_plain (tb := 4) (m := 9) hW' hb (by kernel_rfl) rfl rfl (by kernel_rfl) rfl rfl rfl

theorem own : ownKnob Tryd.prog.godebug = none := by kernel_rfl

def fillV (l : List Value) : Obj → Obj
  | .cells _ t frozen => .cells l.toArray t frozen
  | o => o
def ik (k : IntKind) (l : List Int) : List Value := l.map (.int k)
noncomputable def w0 (os : Os) : World := World.holding Tryd.prog os ⟨#[], #[], []⟩
noncomputable def laidWorld (os : Os) : World := { w0 os with heap := ((((w0 os).heap.modify 0 (fillV (ik .u8 [0, 1, 56, 2, 57, 49, 28, 3, 61, 58, 42, 50, 38, 29, 17, 4, 62, 47, 59, 36, 45, 43, 51, 22, 53, 39, 33, 30, 24, 18, 12, 5, 63, 55, 48, 27, 60, 41, 37, 16, 46, 35, 44, 21, 52, 32, 23, 11, 54, 26, 40, 15, 34, 20, 31, 10, 25, 14, 19, 9, 13, 8, 7, 6]))).modify 3 (fillV (ik .u8 [128, 191, 160, 191, 128, 159, 144, 191, 128, 143, 0, 0, 0, 0, 0, 0, 0, 0, 0, 0, 0, 0, 0, 0, 0, 0, 0, 0, 0, 0, 0, 0]))).modify 2 (fillV (ik .u8 (List.replicate 128 0xf0 ++ List.replicate 66 0xf1 ++ List.replicate 30 0x02 ++ [0x13] ++ List.replicate 12 0x03 ++ [0x23] ++ List.replicate 2 0x03 ++ [0x34] ++ List.replicate 3 0x04 ++ [0x44] ++ List.replicate 11 0xf1)))) }

theorem laid_met (os : Os) : laidMet Tryd.prog Rows.pauliGroupRow.laid ((laidWorld os).forCall (fun _ _ => 0) ⟨#[], #[.agg #[.int .i64 0, .int .u64 0, .int .u64 0, .int .i64 0], .agg #[.int .i64 0, .int .u64 0, .int .u64 0, .int .i64 0], .agg #[.int .i64 0, .int .u64 0, .int .u64 0, .int .i64 0]], []⟩).memory :=
  laidMet_of_run' 8 (by kernel_rfl) (by kernel_rfl)
theorem reads (os : Os) {H : Type} (enc : TypeId × Value → H) : ∃ places, DataW.whole enc Tryd.prog ((laidWorld os).forCall (fun _ _ => 0) ⟨#[], #[.agg #[.int .i64 0, .int .u64 0, .int .u64 0, .int .i64 0], .agg #[.int .i64 0, .int .u64 0, .int .u64 0, .int .i64 0], .agg #[.int .i64 0, .int .u64 0, .int .u64 0, .int .i64 0]], []⟩).memory Tryd.f7.params.toList Rows.pauliGroupSpec.vars false #[.agg #[.int .i64 0, .int .u64 0, .int .u64 0, .int .i64 0], .agg #[.int .i64 0, .int .u64 0, .int .u64 0, .int .i64 0], .agg #[.int .i64 0, .int .u64 0, .int .u64 0, .int .i64 0]].toList 8 = some ([.agg [.lit (.int .i64 0), .lit (.int .u64 0), .lit (.int .u64 0), .lit (.int .i64 0)], .agg [.lit (.int .i64 0), .lit (.int .u64 0), .lit (.int .u64 0), .lit (.int .i64 0)], .agg [.lit (.int .i64 0), .lit (.int .u64 0), .lit (.int .u64 0), .lit (.int .i64 0)]], [], places) :=
  ⟨[], by kernel_rfl⟩

set_option maxRecDepth 100000 in
theorem lifted (os : Os) (started : os.Started) (H : Type) (enc : TypeId × Value → H) (F : Stop.Interp) :
    ReturnsInHanded {} Tryd.checked os 7 .any ((OpenSpec.ofChange Rows.pauliGroupSpec).preRow enc Tryd.prog Tryd.f7 Rows.pauliGroupRow.domain false Rows.pauliGroupRow.laid) (((OpenSpec.ofChange Rows.pauliGroupSpec).at F).post enc Tryd.prog Tryd.f7 false true false false) := by
  obtain ⟨places, hx⟩ := reads os enc
  refine returnsInHanded_of_row (C := Tryd.checked) (s := OpenSpec.ofChange Rows.pauliGroupSpec) own started (by kernel_rfl) Tryd.func7
    (witness_row_at (enc := enc) (C := Tryd.checked) false (laidWorld os) #[.agg #[.int .i64 0, .int .u64 0, .int .u64 0, .int .i64 0], .agg #[.int .i64 0, .int .u64 0, .int .u64 0, .int .i64 0], .agg #[.int .i64 0, .int .u64 0, .int .u64 0, .int .i64 0]] rfl (by kernel_rfl) (by kernel_rfl) (by kernel_rfl)
      (OpenSpec.preRow_of_cond 8 hx (by kernel_rfl) (fun k hk => by cases hk) (by kernel_rfl) (laid_met os))) ?_
  intro W base args ds gs before hval hW _ hcond _ hL _ _
  exact contract H enc W base args ds gs before hval hW hL

theorem said : Rows.PauliGroupSaid :=
  OpenClaim.holds_of_cond 7 Tryd.f7 rfl rfl rfl rfl rfl rfl rfl ⟨rfl, rfl, rfl, rfl, rfl⟩ rfl rfl rfl rfl rfl (by kernel_rfl) Tryd.func7 (by kernel_rfl)
    (of_decide_eq_true (by kernel_rfl)) (by unfold Func.isWrapper; first | (rw [if_pos (by decide +kernel)]; kernel_rfl) | (rw [if_neg (by decide +kernel)]; exact ⟨rfl, rfl⟩))
    (fun os started H enc _ F => by rw [OpenClaim.pre_eq_preRow]; exact lifted os started H enc F)

theorem plain (f : FuncId) (fn : Func) (hf : Tryd.pinned.checked.prog.funcNamed "phasor/phasorlaw13.PauliGroup" = some f) (hfn : Tryd.pinned.checked.prog.funcs[f]? = some fn) :
    false = Tryd.pinned.checked.prog.looks [] ∧ ∀ (j : Nat) t, fn.params[j]? = some t → Tryd.pinned.checked.prog.wantsStandIn t = false := by
  obtain rfl : f = 7 := Option.some.inj ((show Tryd.prog.funcNamed "phasor/phasorlaw13.PauliGroup" = some 7 by kernel_rfl).symm.trans hf) |>.symm
  obtain rfl : fn = Tryd.f7 := (Option.some.inj (Tryd.func7.symm.trans hfn)).symm
  refine ⟨by kernel_rfl, fun j t ht => ?_⟩
  have hall : (#[24, 24, 24].toList.all fun t => Tryd.prog.wantsStandIn t == false) = true := by kernel_rfl
  have := List.all_eq_true.1 hall t (by rw [Array.mem_toList_iff]; exact Array.mem_of_getElem? (show #[24, 24, 24][j]? = some t from ht))
  exact eq_of_beq this

theorem card : Rows.PauliGroupCardSaid :=
  Claim7.holds_tied_plain_at .later [] _ _ _ _ said (fun _ h => by cases h) (by kernel_rfl) (fun _ h => by cases h) pauliGroup_row_tie rfl ⟨rfl, rfl⟩ (by kernel_rfl) rfl plain (by kernel_rfl)

end Go.Proofs.YtecfmnldanahiaaDoor.pauliGroup
