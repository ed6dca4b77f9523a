/- OctetSums: for every input of the bulk that the row allows the law answers true, and its arguments read as they did: the card. Conditions: the row's own (the library's variables hold what the row lists; the bound on the bulk). (Printed by gen_card2.py.) -/
import Derived.Test.YtmecikblalignaaDoorCards
import Derived.Test.YtmecikblalignaaDoorTie
import Derived.Test.YtmecikblalignaaDoorED
import Derived.Test.YtmecikblalignaaDoorY6
set_option linter.unusedSimpArgs false
set_option linter.unusedVariables false
namespace Go.Proofs.YtmecikblalignaaDoor.octetSums
open Go Go.RowKit Go.Proofs.YtmecikblalignaaDoor.E Go.Proofs.YtmecikblalignaaDoor.B Go.ChangeShapes Go.WideShapes Go.ChangeAt
set_option maxRecDepth 100000

theorem run (W : World) (hL : laidMet Tryd.prog laidL W) {H : Type} {enc : TypeId × Value → H} {base : Nat} {v0 v1 : Value} {d0 d1 : DataW H} {p0 p1 : List MemPlace}
    (hv0 : Value.okWide Tryd.prog W .any base 22 v0) (h0 : DataW.Trod enc Tryd.prog W 0 (fun _ => true) true 22 v0 d0 p0)
    (hv1 : Value.okWide Tryd.prog W .any base 23 v1) (h1 : DataW.Trod enc Tryd.prog W 0 (fun _ => true) true 23 v1 d1 p1) (hb : Rows.uptoBulk d0 + Rows.uptoBulk d1 ≤ 1048576) :
    Calls Tryd.prog 3 #[v0, v1] W fun e W' => e = .returned (.bool true) ∧ Below W.heap.size W W' := by
  obtain ⟨a0, n0, c0, rfl⟩ := okWide_slice (show Tryd.prog.underlying 22 = some (.slice 23) by kernel_rfl) hv0
  obtain ⟨a1, n1, c1, rfl⟩ := okWide_slice (show Tryd.prog.underlying 23 = some (.slice 5) by kernel_rfl) hv1
  obtain ⟨f0, h0⟩ := h0
  obtain ⟨f1, h1⟩ := h1
  obtain ⟨w0, vs, bss, e0, q1, q2, q3, q4, q5⟩ := parts_trod h0
  obtain ⟨w1, raw, e1, r1, r2, r3⟩ := bytes_trod h1
  have e0' : Value.slice a0 n0 c0 = w0 := by
    have : [Value.slice a0 n0 c0] = [w0] := e0
    simpa using this
  have e1' : Value.slice a1 n1 c1 = w1 := by
    have : [Value.slice a1 n1 c1] = [w1] := e1
    simpa using this
  subst e0' e1'
  have b0 : bss.flatten.length ≤ Rows.uptoBulk d0 := q4
  have b1 : bss.length ≤ Rows.uptoBulk d0 := q5
  have b2 : raw.length ≤ Rows.uptoBulk d1 := r3
  refine run_true (args := [absC (.slice a0 n0 c0), absC (.slice a1 n1 c1)]) Tryd.func3 (by kernel_rfl) rfl (oldM_ok W) (lawSums (oldM W) (tabs_ok hL) q1 q2 q3 (by omega) (by omega) r1 r2 (by omega)) ?_
  simp only [VRs]
  exact ⟨_, _, rfl, VR_absC _ _, _, _, rfl, VR_absC _ _, rfl⟩



set_option maxRecDepth 100000 in
theorem contract (H : Type) (enc : TypeId × Value → H) (W : World) (base : Nat) (args : Array Value) (ds gs : List (DataW H)) (before : List MemPlace)
    (hval : ∀ (j : Nat) t v, Tryd.f3.params[j]? = some t → args[j]? = some v → Value.okWide Tryd.prog W .any base t v)
    (hW : DataW.Whole enc Tryd.prog Tryd.f3.params.toList Rows.octetSumsSpec.vars false W args.toList ds gs before) (hk : Rows.uptoSmall H (ds ++ gs) = true) (hL : laidMetH Tryd.prog Rows.octetSumsUptoRow.laid W) :
    Calls Tryd.prog 3 args W fun e W' => ∃ v, e = .returned v ∧ Rows.octetSumsSpec.post enc Tryd.prog Tryd.f3 false true false false W args v W' := by
  have hW' := hW
  obtain ⟨p, q, hA0, hV, rfl, hfz, hnd⟩ := hW
  have hA : DataW.TrodAll enc Tryd.prog W 0 (fun _ => true) true [22, 23] args.toList ds p := hA0
  have hbulk : Rows.uptoBulkAll (ds ++ gs) ≤ 1048576 := of_decide_eq_true hk
  obtain ⟨v0, vs0, d0, ds0, p0, q0, hargs0, hds0, hps0, h0, r0⟩ := trodAll_cons hA
  obtain ⟨v1, vs1, d1, ds1, p1, q1, hargs1, hds1, hps1, h1, r1⟩ := trodAll_cons r0
  obtain ⟨e1, e2, e3⟩ := trodAll_nil r1
  subst hds0
  subst hds1
  obtain rfl : args = #[v0, v1] := by
    refine Array.ext' ?_
    rw [hargs0, hargs1, e1]
  subst e2
  obtain ⟨rfl, rfl⟩ := trodVars_none hV
  have hv0 := hval 0 22 v0 rfl rfl
  have hv1 := hval 1 23 v1 rfl rfl
  simp only [List.cons_append, List.nil_append, Rows.uptoBulkAll] at hbulk
  have run := run W hL hv0 h0 hv1 h1 (by omega)
  refine run.mono fun e W' ⟨he, hb⟩ => ⟨.bool true, he, ?_⟩
  exact post_plain (tb := 4) (m := 9) hW' hb (by kernel_rfl) rfl rfl (by kernel_rfl) rfl rfl rfl

theorem own : ownKnob Tryd.prog.godebug = none := by kernel_rfl

def fillV (l : List Value) : Obj → Obj
  | .cells _ t frozen => .cells l.toArray t frozen
  | o => o
def ik (k : IntKind) (l : List Int) : List Value := l.map (.int k)
noncomputable def w0 (os : Os) : World := World.holding Tryd.prog os ⟨#[], #[], []⟩
noncomputable def laidWorld (os : Os) : World := { w0 os with heap := (((w0 os).heap.modify 2 (fillV (ik .u8 [128, 191, 160, 191, 128, 159, 144, 191, 128, 143, 0, 0, 0, 0, 0, 0, 0, 0, 0, 0, 0, 0, 0, 0, 0, 0, 0, 0, 0, 0, 0, 0]))).modify 1 (fillV (ik .u8 (List.replicate 128 0xf0 ++ List.replicate 66 0xf1 ++ List.replicate 30 0x02 ++ [0x13] ++ List.replicate 12 0x03 ++ [0x23] ++ List.replicate 2 0x03 ++ [0x34] ++ List.replicate 3 0x04 ++ [0x44] ++ List.replicate 11 0xf1)))) }

theorem laid_met (os : Os) : laidMet Tryd.prog Rows.octetSumsUptoRow.laid ((laidWorld os).forCall (fun _ _ => 0) ⟨#[], #[.slice none 0 0, .slice none 0 0], []⟩).memory :=
  laidMet_of_run' 8 (by kernel_rfl) (by kernel_rfl)
theorem reads (os : Os) {H : Type} (enc : TypeId × Value → H) : ∃ places, DataW.whole enc Tryd.prog ((laidWorld os).forCall (fun _ _ => 0) ⟨#[], #[.slice none 0 0, .slice none 0 0], []⟩).memory Tryd.f3.params.toList Rows.octetSumsSpec.vars false #[.slice none 0 0, .slice none 0 0].toList 8 = some ([.nil, .nil], [], places) :=
  ⟨[], by kernel_rfl⟩

set_option maxRecDepth 100000 in
theorem lifted (os : Os) (started : os.Started) (H : Type) (enc : TypeId × Value → H) (F : Stop.Interp) :
    ReturnsInHanded {} Tryd.checked os 3 .any ((Rows.OpenSpec.upto Rows.octetSumsSpec).preRow enc Tryd.prog Tryd.f3 Rows.octetSumsUptoRow.domain false Rows.octetSumsUptoRow.laid) (((Rows.OpenSpec.upto Rows.octetSumsSpec).at F).post enc Tryd.prog Tryd.f3 false true false false) := by
  obtain ⟨places, hx⟩ := reads os enc
  refine returnsInHanded_of_row (C := Tryd.checked) (s := Rows.OpenSpec.upto Rows.octetSumsSpec) own started (by kernel_rfl) Tryd.func3
    (witness_row_at (enc := enc) (C := Tryd.checked) false (laidWorld os) #[.slice none 0 0, .slice none 0 0] rfl (by kernel_rfl) (by kernel_rfl) (by kernel_rfl)
      (OpenSpec.preRow_of_cond 8 hx (by kernel_rfl) (fun k hk => by cases hk; kernel_rfl) (by kernel_rfl) (laid_met os))) ?_
  intro W base args ds gs before hval hW _ hcond _ hL _ _
  exact contract H enc W base args ds gs before hval hW (hcond _ rfl) hL

theorem said : Rows.OctetSumsUptoSaid :=
  OpenClaim.holds_of_cond 3 Tryd.f3 rfl rfl rfl rfl rfl rfl rfl ⟨rfl, rfl, rfl, rfl, rfl⟩ rfl rfl rfl rfl rfl (by kernel_rfl) Tryd.func3 (by kernel_rfl)
    (of_decide_eq_true (by kernel_rfl)) (by unfold Func.isWrapper; first | (rw [if_pos (by decide +kernel)]; kernel_rfl) | (rw [if_neg (by decide +kernel)]; exact ⟨rfl, rfl⟩))
    (fun os started H enc _ F => by rw [OpenClaim.pre_eq_preRow]; exact lifted os started H enc F)

theorem plain (f : FuncId) (fn : Func) (hf : Tryd.pinned.checked.prog.funcNamed "phasor/phasorlaw01.OctetSums" = some f) (hfn : Tryd.pinned.checked.prog.funcs[f]? = some fn) :
    false = Tryd.pinned.checked.prog.looks [] ∧ ∀ (j : Nat) t, fn.params[j]? = some t → Tryd.pinned.checked.prog.wantsStandIn t = false := by
  obtain rfl : f = 3 := Option.some.inj ((show Tryd.prog.funcNamed "phasor/phasorlaw01.OctetSums" = some 3 by kernel_rfl).symm.trans hf) |>.symm
  obtain rfl : fn = Tryd.f3 := (Option.some.inj (Tryd.func3.symm.trans hfn)).symm
  refine ⟨by kernel_rfl, fun j t ht => ?_⟩
  have hall : (#[22, 23].toList.all fun t => Tryd.prog.wantsStandIn t == false) = true := by kernel_rfl
  have := List.all_eq_true.1 hall t (by rw [Array.mem_toList_iff]; exact Array.mem_of_getElem? (show #[22, 23][j]? = some t from ht))
  exact eq_of_beq this

theorem card : Rows.OctetSumsUptoCardSaid :=
  Claim7.holds_tied_plain_at .later [] _ _ _ _ said (fun _ h => by cases h) (by kernel_rfl) (fun _ h => by cases h) octetSumsUpto_row_tie rfl ⟨rfl, rfl⟩ (by kernel_rfl) rfl plain (by kernel_rfl)

end Go.Proofs.YtmecikblalignaaDoor.octetSums
