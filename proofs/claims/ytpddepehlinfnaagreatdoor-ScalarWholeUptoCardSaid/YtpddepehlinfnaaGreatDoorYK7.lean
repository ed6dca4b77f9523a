/- ScalarWhole: for every input of the bulk that the row allows the law answers true, and its arguments read as they did: the card. Conditions: the row's own (the library's variables hold what the row lists; the bound on the bulk). (Printed by gen_card2.py.) -/
import Derived.Test.YtpddepehlinfnaaGreatDoorCards
import Derived.Test.YtpddepehlinfnaaGreatDoorTie
import Derived.Test.YtpddepehlinfnaaGreatDoorYED
import Derived.Test.YtpddepehlinfnaaGreatDoorYW4
import Derived.Test.YtpddepehlinfnaaGreatDoorYS31
set_option linter.unusedSimpArgs false
set_option linter.unusedVariables false
namespace Go.Proofs.YtpddepehlinfnaaGreatDoor.scalarWhole
open Go Go.RowKit Go.Proofs.YtpddepehlinfnaaGreatDoor.E Go.Proofs.YtpddepehlinfnaaGreatDoor.B Go.ChangeShapes Go.WideShapes Go.ChangeAt
set_option maxRecDepth 100000

theorem lits_bulk {H : Type} (k : IntKind) : ∀ zs : List Int, Rows.uptoBulkAll (lits k zs : List (DataW H)) = zs.length
  | [] => rfl
  | z :: zs => by
    have := lits_bulk (H := H) k zs
    show Rows.uptoBulk (DataW.lit (.int k z)) + Rows.uptoBulkAll (lits k zs) = _
    rw [this]
    simp only [Rows.uptoBulk, List.length_cons]
    omega

set_option maxRecDepth 100000 in
/-- A row of words, opened. -/
theorem open_words {H : Type} {enc : TypeId × Value → H} {W : World} {r : Reach} {b0 : Nat} {v : Value} {d : DataW H} {ps : List MemPlace} (hval : Value.okWide Tryz.prog W r b0 22 v) (h : DataW.Trod enc Tryz.prog W 0 (fun _ => true) true 22 v d ps) :
    ∃ l : List Nat, (∀ G, Sees (oldM W) G 1 (absC v) (uCs l)) ∧ (∀ x ∈ l, x < 18446744073709551616) ∧ l.length ≤ Rows.uptoBulk d := by
  have hu : Tryz.prog.underlying 22 = some (.slice 23) := by kernel_rfl
  obtain ⟨a0, n0, c0, rfl⟩ := okWide_slice hu hval
  obtain ⟨fuel, h⟩ := h
  rcases open_ints (k := .u64) hu (by kernel_rfl) (by kernel_rfl) h with ⟨h0, h1⟩ | ⟨a, len, cap, zs, hcs, _, hlc, _, hzl, hx, hget, hwf⟩
  · have e : (Value.slice a0 n0 c0) = .slice none 0 0 := by
      have : [Value.slice a0 n0 c0] = [Value.slice none 0 0] := h0
      simpa using this
    rw [e]
    exact ⟨[], fun G => .nil, by simp, by simp⟩
  · have e : (Value.slice a0 n0 c0) = .slice (some a) len cap := by
      have : [Value.slice a0 n0 c0] = [Value.slice (some a) len cap] := hcs
      simpa using this
    rw [e]
    have hd : d = .slice (lits .u64 (zs.take len)) (lits .u64 (zs.drop len)) := congrArg Prod.fst hx
    have hzl' : zs.length = cap := by simpa using hzl
    have hr : ∀ z ∈ zs, 0 ≤ z ∧ z < 18446744073709551616 := fun z hz => by
      have hw := hwf z hz
      have : (decide (IntKind.min .u64 ≤ z) && decide (z ≤ IntKind.max .u64)) = true := hw
      simp only [Bool.and_eq_true, decide_eq_true_eq] at this
      have h1 : IntKind.min .u64 = 0 := by decide
      have h2 : IntKind.max .u64 = 18446744073709551615 := by decide
      omega
    refine ⟨(zs.take len).map Int.toNat, fun G => .old a len cap _ (by simp [uCs]; omega) ?_ hlc, ?_, ?_⟩
    · intro i x hx2
      have hi : i < len := by
        have := (List.getElem?_eq_some_iff.1 hx2).1
        simp [uCs] at this; omega
      have hg := hget i (by omega)
      have hz : zs[i]? = some (zs.getD i 0) := by
        rw [List.getD_eq_getElem?_getD, List.getElem?_eq_getElem (by omega)]; rfl
      have hzr := hr _ (List.mem_of_getElem? hz)
      have hsp : (a.add i).spot.isSome = false := by
        unfold World.cell? at hg
        split at hg
        · split at hg
          · cases hg
          · rename_i hns; simpa using hns
        · cases hg
      unfold Mc oldM
      rw [hsp, if_neg (by decide), if_neg (by decide), hg]
      have : x = .int .u64 (zs.getD i 0) := by
        unfold uCs at hx2
        rw [List.getElem?_map, List.getElem?_map, List.getElem?_take, if_pos hi, hz] at hx2
        simp only [Option.map_some, Option.some.injEq] at hx2
        rw [← hx2, Int.toNat_of_nonneg hzr.1]
      rw [this]; rfl
    · intro x hx2
      obtain ⟨z, hz, rfl⟩ := List.mem_map.1 hx2
      have := hr z (List.mem_of_mem_take hz)
      omega
    · rw [hd]
      simp only [Rows.uptoBulk, lits_bulk, List.length_map]
      omega

theorem rngU {n : Int} (h : IntKind.u64.min ≤ n ∧ n ≤ IntKind.u64.max) : ∃ b : Nat, n = b ∧ b < 18446744073709551616 := by
  have h1 : IntKind.u64.min = 0 := by decide
  have h2 : IntKind.u64.max = 18446744073709551615 := by decide
  exact ⟨n.toNat, by omega, by omega⟩
theorem rngI {n : Int} (h : IntKind.i64.min ≤ n ∧ n ≤ IntKind.i64.max) : I64 n := by
  have h1 : IntKind.i64.min = -9223372036854775808 := by decide
  have h2 : IntKind.i64.max = 9223372036854775807 := by decide
  unfold I64; omega

theorem bulk_pos {H : Type} (d : DataW H) : 1 ≤ Rows.uptoBulk d := by
  cases d with
  | lit x => cases x <;> simp [Rows.uptoBulk]
  | _ => simp [Rows.uptoBulk]

theorem run (W : World) (hL : laidMet Tryz.prog laidL W) {H : Type} {enc : TypeId × Value → H} {base : Nat} {v0 v1 v2 : Value} {d0 d1 d2 : DataW H} {p0 p1 p2 : List MemPlace}
    (hv0 : Value.okWide Tryz.prog W .any base 22 v0) (h0 : DataW.Trod enc Tryz.prog W 0 (fun _ => true) true 22 v0 d0 p0)
    (hv1 : Value.okWide Tryz.prog W .any base 3 v1) (h1 : DataW.Trod enc Tryz.prog W 0 (fun _ => true) true 3 v1 d1 p1)
    (hv2 : Value.okWide Tryz.prog W .any base 23 v2) (h2 : DataW.Trod enc Tryz.prog W 0 (fun _ => true) true 23 v2 d2 p2) (hb : Rows.uptoBulk d0 + Rows.uptoBulk d1 + Rows.uptoBulk d2 ≤ 1048576) :
    Calls Tryz.prog 3 #[v0, v1, v2] W fun e W' => e = .returned (.bool true) ∧ Below W.heap.size W W' := by
  have hb1 := bulk_pos d1
  have hb2 := bulk_pos d2
  obtain ⟨l, q1, q2, q3⟩ := open_words hv0 h0
  obtain ⟨n1, rfl, r1⟩ := open_num (k := .i64) (by kernel_rfl) hv1 h1
  obtain ⟨n2, rfl, r2⟩ := open_num (k := .u64) (by kernel_rfl) hv2 h2
  obtain ⟨y, rfl, hy⟩ := rngU r2
  refine run_true (args := [absC v0, .int .i64 n1, .int .u64 y]) Tryz.func3 (by kernel_rfl) rfl (oldM_ok W) (lawWhole (oldM W) (tabs_ok hL) q1 (by omega) q2 (rngI r1) hy) ?_
  simp only [VRs]
  refine ⟨_, _, rfl, VR_absC _ _, _, _, rfl, ?_, _, _, rfl, ?_, rfl⟩ <;> simp only [VR]

set_option maxRecDepth 100000 in
theorem contract (H : Type) (enc : TypeId × Value → H) (W : World) (base : Nat) (args : Array Value) (ds gs : List (DataW H)) (before : List MemPlace)
    (hval : ∀ (j : Nat) t v, Tryz.f3.params[j]? = some t → args[j]? = some v → Value.okWide Tryz.prog W .any base t v)
    (hW : DataW.Whole enc Tryz.prog Tryz.f3.params.toList Rows.scalarWholeSpec.vars false W args.toList ds gs before) (hk : Rows.uptoSmall H (ds ++ gs) = true) (hL : laidMetH Tryz.prog Rows.scalarWholeUptoRow.laid W) :
    Calls Tryz.prog 3 args W fun e W' => ∃ v, e = .returned v ∧ Rows.scalarWholeSpec.post enc Tryz.prog Tryz.f3 false true false false W args v W' := by
  have hW' := hW
  obtain ⟨p, q, hA0, hV, rfl, hfz, hnd⟩ := hW
  have hA : DataW.TrodAll enc Tryz.prog W 0 (fun _ => true) true [22, 3, 23] args.toList ds p := hA0
  have hbulk : Rows.uptoBulkAll (ds ++ gs) ≤ 1048576 := of_decide_eq_true hk
  obtain ⟨v0, vs0, d0, ds0, p0, q0, hargs0, hds0, hps0, h0, r0⟩ := trodAll_cons hA
  obtain ⟨v1, vs1, d1, ds1, p1, q1, hargs1, hds1, hps1, h1, r1⟩ := trodAll_cons r0
  obtain ⟨v2, vs2, d2, ds2, p2, q2, hargs2, hds2, hps2, h2, r2⟩ := trodAll_cons r1
  obtain ⟨e1, e2, e3⟩ := trodAll_nil r2
  subst hds0
  subst hds1
  subst hds2
  obtain rfl : args = #[v0, v1, v2] := by
    refine Array.ext' ?_
    rw [hargs0, hargs1, hargs2, e1]
  subst e2
  obtain ⟨rfl, rfl⟩ := trodVars_none hV
  have hv0 := hval 0 22 v0 rfl rfl
  have hv1 := hval 1 3 v1 rfl rfl
  have hv2 := hval 2 23 v2 rfl rfl
  simp only [List.cons_append, List.nil_append, Rows.uptoBulkAll] at hbulk
  have run := run W hL hv0 h0 hv1 h1 hv2 h2 (by omega)
  refine run.mono fun e W' ⟨he, hb⟩ => ⟨.bool true, he, ?_⟩
  exact post_plain (tb := 4) (m := 9) hW' hb (by kernel_rfl) rfl rfl (by kernel_rfl) rfl rfl rfl

theorem own : ownKnob Tryz.prog.godebug = none := by kernel_rfl

theorem reads {H : Type} (enc : TypeId × Value → H) : ∃ places, DataW.whole enc Tryz.prog wm Tryz.f3.params.toList Rows.scalarWholeSpec.vars false #[.slice none 0 0, .int .i64 0, .int .u64 0].toList 8 = some ([.nil, .lit (.int .i64 0), .lit (.int .u64 0)], [], places) :=
  ⟨[], by kernel_rfl⟩

set_option maxRecDepth 100000 in
theorem lifted (os : Os) (started : os.Started) (H : Type) (enc : TypeId × Value → H) (F : Stop.Interp) :
    ReturnsInHanded {} Tryz.checked os 3 .any ((Rows.OpenSpec.upto Rows.scalarWholeSpec).preRow enc Tryz.prog Tryz.f3 Rows.scalarWholeUptoRow.domain false Rows.scalarWholeUptoRow.laid) (((Rows.OpenSpec.upto Rows.scalarWholeSpec).at F).post enc Tryz.prog Tryz.f3 false true false false) := by
  obtain ⟨places, hx⟩ := reads enc
  refine returnsInHanded_of_row (C := Tryz.checked) (s := Rows.OpenSpec.upto Rows.scalarWholeSpec) own started (by kernel_rfl) Tryz.func3
    ⟨laidWorld os, fun _ _ => 0, ⟨#[], #[.slice none 0 0, .int .i64 0, .int .u64 0], []⟩, rfl, shaped os _, rfl, (Input.okWide_of_okWideB (by kernel_rfl)).2, ?_, ?_⟩ ?_
  · rw [call_memory]
    exact OpenSpec.preRow_of_cond 8 hx (by kernel_rfl) (fun k hk => by cases hk; kernel_rfl) (by kernel_rfl) laid_met
  · simp only [Assume.holds]
    exact ⟨by simp, by simp, fun _ => Modest.zero, by simp, by simp⟩
  intro W base args ds gs before hval hW _ hcond _ hL _ _
  exact contract H enc W base args ds gs before hval hW (hcond _ rfl) hL

theorem said : Rows.ScalarWholeUptoSaid :=
  OpenClaim.holds_of_cond 3 Tryz.f3 rfl rfl rfl rfl rfl rfl rfl ⟨rfl, rfl, rfl, rfl, rfl⟩ rfl rfl rfl rfl rfl (by kernel_rfl) Tryz.func3 (by kernel_rfl)
    (of_decide_eq_true (by kernel_rfl)) (by unfold Func.isWrapper; first | (rw [if_pos (by decide +kernel)]; kernel_rfl) | (rw [if_neg (by decide +kernel)]; exact ⟨rfl, rfl⟩))
    (fun os started H enc _ F => by rw [OpenClaim.pre_eq_preRow]; exact lifted os started H enc F)

theorem plain (f : FuncId) (fn : Func) (hf : Tryz.pinned.checked.prog.funcNamed "phasor/phasorlaw02.ScalarWhole" = some f) (hfn : Tryz.pinned.checked.prog.funcs[f]? = some fn) :
    true = Tryz.pinned.checked.prog.looks [] ∧ ∀ (j : Nat) t, fn.params[j]? = some t → Tryz.pinned.checked.prog.wantsStandIn t = false := by
  obtain rfl : f = 3 := Option.some.inj ((show Tryz.prog.funcNamed "phasor/phasorlaw02.ScalarWhole" = some 3 by kernel_rfl).symm.trans hf) |>.symm
  obtain rfl : fn = Tryz.f3 := (Option.some.inj (Tryz.func3.symm.trans hfn)).symm
  refine ⟨by kernel_rfl, fun j t ht => ?_⟩
  have hall : (#[22, 3, 23].toList.all fun t => Tryz.prog.wantsStandIn t == false) = true := by kernel_rfl
  have := List.all_eq_true.1 hall t (by rw [Array.mem_toList_iff]; exact Array.mem_of_getElem? (show #[22, 3, 23][j]? = some t from ht))
  exact eq_of_beq this

theorem card : Rows.ScalarWholeUptoCardSaid :=
  Claim7.holds_tied_plain_at .later [] _ _ _ _ said (fun _ h => by cases h) (by kernel_rfl) (fun _ h => by cases h) scalarWholeUpto_row_tie rfl ⟨rfl, rfl⟩ (by kernel_rfl) rfl plain (by kernel_rfl)

end Go.Proofs.YtpddepehlinfnaaGreatDoor.scalarWhole
