/- For every input of the bulk that the row allows OctetBurst answers true, and its arguments read as they did: the card. Conditions: the row's own (the two tables of unicode/utf8 hold what the row lists; the bound on the bulk). -/
import Derived.Test.YtnmignkabcblgaaDoorCards
import Derived.Test.YtnmignkabcblgaaDoorTie
import Derived.Test.YtnmignkabcblgaaDoorC18
import Derived.Test.YtnmignkabcblgaaDoorC20
set_option linter.unusedSimpArgs false
set_option linter.unusedVariables false
namespace Go.Proofs.YtnmignkabcblgaaDoor.octetBurst
open Go Go.RowKit Go.Proofs.YtnmignkabcblgaaDoor.E Go.Proofs.YtnmignkabcblgaaDoor.B Go.Proofs.YtnmignkabcblgaaDoor.C Go.ChangeShapes Go.WideShapes Go.ChangeAt
set_option maxRecDepth 100000

theorem run (W : World) (hL : laidMet Tryd.prog Rows.octetNobodyRow.laid W) {H : Type} {enc : TypeId × Value → H} {base : Nat} {v0 v1 v2 : Value} {d0 d1 d2 : DataW H} {p0 p1 p2 : List MemPlace} (hv0 : Value.okWide Tryd.prog W .any base 24 v0) (h0 : DataW.Trod enc Tryd.prog W 0 (fun _ => true) true 24 v0 d0 p0)
    (hv1 : Value.okWide Tryd.prog W .any base 28 v1) (h1 : DataW.Trod enc Tryd.prog W 0 (fun _ => true) true 28 v1 d1 p1) (hv2 : Value.okWide Tryd.prog W .any base 38 v2) (h2 : DataW.Trod enc Tryd.prog W 0 (fun _ => true) true 38 v2 d2 p2) (hb : Rows.uptoBulk d0 ≤ 1048576) :
    Calls Tryd.prog 5 #[v0, v1, v2] W fun e W' => e = .returned (.bool true) ∧ Below W.heap.size W W' := by
  obtain ⟨bs, hs, hc, hl⟩ := open_bytes hv0 h0
  obtain ⟨x, rfl, hx⟩ := open_num (k := .u64) (by kernel_rfl) hv1 h1
  obtain ⟨y, rfl, hy⟩ := open_num (k := .u32) (by kernel_rfl) hv2 h2
  have hx0 : 0 ≤ x := by
    have : (decide (IntKind.min .u64 ≤ x) && decide (x ≤ IntKind.max .u64)) = true := hx
    simp only [Bool.and_eq_true, decide_eq_true_eq] at this
    have h1 : IntKind.min .u64 = 0 := by decide
    omega
  obtain ⟨mk, hmk⟩ : ∃ mk : BitVec 32, y = (mk.toNat : Int) := by
    have : (decide (IntKind.min .u32 ≤ y) && decide (y ≤ IntKind.max .u32)) = true := hy
    simp only [Bool.and_eq_true, decide_eq_true_eq] at this
    have h1 : IntKind.min .u32 = 0 := by decide
    have h2 : IntKind.max .u32 = 4294967295 := by decide
    refine ⟨BitVec.ofNat 32 y.toNat, ?_⟩
    rw [BitVec.toNat_ofNat]
    omega
  subst hmk
  have h := lawBurst (oldM W) (tabs hL) (absC v0) bs hs hc (by omega) x hx0 mk W W (fun _ _ => none) #[v0, .int .u64 x, .int .u32 mk.toNat] (oldM_ok W) (Rel.start W) (by
    simp only [VRs]
    refine ⟨_, _, rfl, VR_absC _ _, _, _, rfl, ?_, _, _, rfl, ?_, rfl⟩ <;> simp only [VR])
  refine (h.calls Tryd.func5 (by kernel_rfl) rfl).mono fun e W' he => ?_
  cases e with
  | returned cv =>
    obtain ⟨v, H', ρ', rfl, _, hv, hr⟩ := he
    simp only [VR] at hv
    exact ⟨by rw [hv], hr.below⟩
  | panicked => exact he.elim
  | outgrown => exact he.elim


set_option maxRecDepth 100000 in
theorem contract (H : Type) (enc : TypeId × Value → H) (W : World) (base : Nat) (args : Array Value) (ds gs : List (DataW H)) (before : List MemPlace)
    (hval : ∀ (j : Nat) t v, Tryd.f5.params[j]? = some t → args[j]? = some v → Value.okWide Tryd.prog W .any base t v)
    (hW : DataW.Whole enc Tryd.prog Tryd.f5.params.toList Rows.octetBurstSpec.vars false W args.toList ds gs before) (hk : Rows.uptoSmall H (ds ++ gs) = true) (hL : laidMetH Tryd.prog Rows.octetBurstUptoRow.laid W) :
    Calls Tryd.prog 5 args W fun e W' => ∃ v, e = .returned v ∧ Rows.octetBurstSpec.post enc Tryd.prog Tryd.f5 false true false false W args v W' := by
  have hW' := hW
  obtain ⟨p, q, hA0, hV, rfl, hfz, hnd⟩ := hW
  have hA : DataW.TrodAll enc Tryd.prog W 0 (fun _ => true) true [24, 28, 38] args.toList ds p := hA0
  have hbulk : Rows.uptoBulkAll (ds ++ gs) ≤ 1048576 := of_decide_eq_true hk
  obtain ⟨v0, vs0, d0, ds0, p0, q0, hargs0, hds0, hps0, h0, r0⟩ := trodAll_cons hA
  obtain ⟨v1, vs1, d1, ds1, p1, q1, hargs1, hds1, hps1, h1, r1⟩ := trodAll_cons r0
  obtain ⟨v2, vs2, d2, ds2, p2, q2, hargs2, hds2, hps2, h2, r2⟩ := trodAll_cons r1
  obtain ⟨e1, e2, e3⟩ := trodAll_nil r2
  subst hds0
  subst hds1
  subst hds2
  obtain rfl : args = #[v0, v1, v2] := by
    refine Array.ext' ?_
    rw [hargs0, hargs1, hargs2, e1]
  subst e2
  obtain ⟨rfl, rfl⟩ := trodVars_none hV
  have hv0 := hval 0 24 v0 rfl rfl
  have hv1 := hval 1 28 v1 rfl rfl
  have hv2 := hval 2 38 v2 rfl rfl
  simp only [List.cons_append, List.nil_append, Rows.uptoBulkAll] at hbulk
  have run := run W hL hv0 h0 hv1 h1 hv2 h2 (by omega)
  refine run.mono fun e W' ⟨he, hb⟩ => ⟨.bool true, he, ?_⟩
  exact post_plain (tb := 4) (m := 9) hW' hb (by kernel_rfl) rfl rfl (by kernel_rfl) rfl rfl rfl

theorem own : ownKnob Tryd.prog.godebug = none := by kernel_rfl

def fill (l : List Int) : Obj → Obj
  | .cells _ t frozen => .cells (l.map fun n => Value.int .u8 n).toArray t frozen
  | o => o

noncomputable def laidWorld (os : Os) : World :=
  { World.holding Tryd.prog os ⟨#[], #[], []⟩ with heap := ((World.holding Tryd.prog os ⟨#[], #[], []⟩).heap.modify 2 (fill accept)).modify 1 (fill u8first) }

theorem laid_met (os : Os) : laidMet Tryd.prog Rows.octetBurstUptoRow.laid ((laidWorld os).forCall (fun _ _ => 0) ⟨#[], #[.slice none 0 0, .int .u64 0, .int .u32 0], []⟩).memory :=
  laidMet_of_run' 8 (by kernel_rfl) (by kernel_rfl)
theorem reads (os : Os) {H : Type} (enc : TypeId × Value → H) : ∃ places, DataW.whole enc Tryd.prog ((laidWorld os).forCall (fun _ _ => 0) ⟨#[], #[.slice none 0 0, .int .u64 0, .int .u32 0], []⟩).memory Tryd.f5.params.toList Rows.octetBurstSpec.vars false #[.slice none 0 0, .int .u64 0, .int .u32 0].toList 8 = some ([.nil, .lit (.int .u64 0), .lit (.int .u32 0)], [], places) :=
  ⟨[], by kernel_rfl⟩

set_option maxRecDepth 100000 in
theorem lifted (os : Os) (started : os.Started) (H : Type) (enc : TypeId × Value → H) (F : Stop.Interp) :
    ReturnsInHanded {} Tryd.checked os 5 .any ((Rows.OpenSpec.upto Rows.octetBurstSpec).preRow enc Tryd.prog Tryd.f5 Rows.octetBurstUptoRow.domain false Rows.octetBurstUptoRow.laid) (((Rows.OpenSpec.upto Rows.octetBurstSpec).at F).post enc Tryd.prog Tryd.f5 false true false false) := by
  obtain ⟨places, hx⟩ := reads os enc
  refine returnsInHanded_of_row (C := Tryd.checked) (s := Rows.OpenSpec.upto Rows.octetBurstSpec) own started (by kernel_rfl) Tryd.func5
    (witness_row_at (enc := enc) (C := Tryd.checked) false (laidWorld os) #[.slice none 0 0, .int .u64 0, .int .u32 0] rfl (by kernel_rfl) (by kernel_rfl) (by kernel_rfl)
      (OpenSpec.preRow_of_cond 8 hx (by kernel_rfl) (fun k hk => by cases hk; kernel_rfl) (by kernel_rfl) (laid_met os))) ?_
  intro W base args ds gs before hval hW _ hcond _ hL _ _
  exact contract H enc W base args ds gs before hval hW (hcond _ rfl) hL

theorem said : Rows.OctetBurstUptoSaid :=
  OpenClaim.holds_of_cond 5 Tryd.f5 rfl rfl rfl rfl rfl rfl rfl ⟨rfl, rfl, rfl, rfl, rfl⟩ rfl rfl rfl rfl rfl (by kernel_rfl) Tryd.func5 (by kernel_rfl)
    (of_decide_eq_true (by kernel_rfl)) (by unfold Func.isWrapper; first | (rw [if_pos (by decide +kernel)]; kernel_rfl) | (rw [if_neg (by decide +kernel)]; exact ⟨rfl, rfl⟩))
    (fun os started H enc _ F => by rw [OpenClaim.pre_eq_preRow]; exact lifted os started H enc F)

theorem plain (f : FuncId) (fn : Func) (hf : Tryd.pinned.checked.prog.funcNamed "phasor/phasorlaw01.OctetBurst" = some f) (hfn : Tryd.pinned.checked.prog.funcs[f]? = some fn) :
    false = Tryd.pinned.checked.prog.looks [] ∧ ∀ (j : Nat) t, fn.params[j]? = some t → Tryd.pinned.checked.prog.wantsStandIn t = false := by
  obtain rfl : f = 5 := Option.some.inj ((show Tryd.prog.funcNamed "phasor/phasorlaw01.OctetBurst" = some 5 by kernel_rfl).symm.trans hf) |>.symm
  obtain rfl : fn = Tryd.f5 := (Option.some.inj (Tryd.func5.symm.trans hfn)).symm
  refine ⟨by kernel_rfl, fun j t ht => ?_⟩
  have hall : (#[24, 28, 38].toList.all fun t => Tryd.prog.wantsStandIn t == false) = true := by kernel_rfl
  have := List.all_eq_true.1 hall t (by rw [Array.mem_toList_iff]; exact Array.mem_of_getElem? (show #[24, 28, 38][j]? = some t from ht))
  exact eq_of_beq this

theorem card : Rows.OctetBurstUptoCardSaid :=
  Claim7.holds_tied_plain_at .later [] _ _ _ _ said (fun _ h => by cases h) (by kernel_rfl) (fun _ h => by cases h) octetBurstUpto_row_tie rfl ⟨rfl, rfl⟩ (by kernel_rfl) rfl plain (by kernel_rfl)

end Go.Proofs.YtnmignkabcblgaaDoor.octetBurst
