/- PauliCarries: for every input of the bulk that the row allows the law answers true, and its arguments read as they did: the card. Conditions: the row's own (the library's variables hold what the row lists; the bound on the bulk). (Printed by gen_card2.py.) -/
import Derived.Test.YtecfmnldanahiaaDoorCards
import Derived.Test.YtecfmnldanahiaaDoorTie
import Derived.Test.YtecfmnldanahiaaDoorED
import Derived.Test.YtecfmnldanahiaaDoorP27
set_option linter.unusedSimpArgs false
set_option linter.unusedVariables false
namespace Go.Proofs.YtecfmnldanahiaaDoor.pauliCarries
open Go Go.RowKit Go.Proofs.YtecfmnldanahiaaDoor.E Go.Proofs.YtecfmnldanahiaaDoor.B Go.ChangeShapes Go.WideShapes Go.ChangeAt
set_option maxRecDepth 100000

theorem rngI {n : Int} (h : IntKind.i64.min ≤ n ∧ n ≤ IntKind.i64.max) : I64 n := by
  have h1 : IntKind.i64.min = -9223372036854775808 := by decide
  have h2 : IntKind.i64.max = 9223372036854775807 := by decide
  unfold I64; omega
theorem rngU {n : Int} (h : IntKind.u64.min ≤ n ∧ n ≤ IntKind.u64.max) : ∃ b : Nat, n = b ∧ b < 18446744073709551616 := by
  have h1 : IntKind.u64.min = 0 := by decide
  have h2 : IntKind.u64.max = 18446744073709551615 := by decide
  exact ⟨n.toNat, by omega, by omega⟩

theorem open_pl {H : Type} {enc : TypeId × Value → H} {W : World} {b0 base : Nat} {v : Value} {d : DataW H} {ps : List MemPlace} (hval : Value.okWide Tryd.prog W .any b0 24 v) (h : DataW.Trod enc Tryd.prog W base (fun _ => true) true 24 v d ps) :
    ∃ (n p : Int) (x z : Nat), v = .agg #[.int .i64 n, .int .u64 x, .int .u64 z, .int .i64 p] ∧ x < 18446744073709551616 ∧ z < 18446744073709551616 := by
  obtain ⟨cs, rfl, hf⟩ := open_struct (n := 3) (l := [.int .i64, .int .u64, .int .u64, .int .i64]) (P := Tryd.prog) (t := 24) (by kernel_rfl) (by kernel_rfl) hval h
  obtain ⟨a, b, e, f, rfl, ra, rb, re, rf⟩ := fit4 hf
  obtain ⟨x, rfl, hx⟩ := rngU rb
  obtain ⟨z, rfl, hz⟩ := rngU re
  exact ⟨a, f, x, z, rfl, hx, hz⟩

theorem vr_pl {ρ : Asg} (n p : Int) (x z : Nat) : VR ρ (pl n x z p) (.agg #[.int .i64 n, .int .u64 x, .int .u64 z, .int .i64 p]) := by
  unfold pl
  simp only [VR]
  refine ⟨_, rfl, ?_⟩
  simp only [VRs]
  refine ⟨_, _, rfl, ?_, _, _, rfl, ?_, _, _, rfl, ?_, _, _, rfl, ?_, rfl⟩ <;> simp only [VR]

theorem lits_bulk {H : Type} (k : IntKind) : ∀ zs : List Int, Rows.uptoBulkAll (lits k zs : List (DataW H)) = zs.length
  | [] => rfl
  | z :: zs => by
    have := lits_bulk (H := H) k zs
    show Rows.uptoBulk (DataW.lit (.int k z)) + Rows.uptoBulkAll (lits k zs) = _
    rw [this]
    simp only [Rows.uptoBulk, List.length_cons]
    omega

set_option maxRecDepth 100000 in
/-- A row of numbers of the kind int, opened. -/
theorem open_ints64 {H : Type} {enc : TypeId × Value → H} {W : World} {r : Reach} {b0 : Nat} {v : Value} {d : DataW H} {ps : List MemPlace} (hval : Value.okWide Tryd.prog W r b0 26 v) (h : DataW.Trod enc Tryd.prog W 0 (fun _ => true) true 26 v d ps) :
    ∃ ks : List Int, (∀ G, Sees (oldM W) G 1 (absC v) (ks.map fun k => AV.int .i64 k)) ∧ Capped (absC v) ∧ ks.length ≤ Rows.uptoBulk d := by
  have hu : Tryd.prog.underlying 26 = some (.slice 3) := by kernel_rfl
  obtain ⟨a0, n0, c0, rfl⟩ := okWide_slice hu hval
  obtain ⟨fuel, h⟩ := h
  rcases open_ints (k := .i64) hu (by kernel_rfl) (by kernel_rfl) h with ⟨h0, h1⟩ | ⟨a, len, cap, zs, hcs, _, hlc, _, hzl, hx, hget, hwf⟩
  · have e : (Value.slice a0 n0 c0) = .slice none 0 0 := by
      have : [Value.slice a0 n0 c0] = [Value.slice none 0 0] := h0
      simpa using this
    rw [e]
    exact ⟨[], fun G => .nil, (by intro b e off s n c hh; cases hh), by simp⟩
  · have e : (Value.slice a0 n0 c0) = .slice (some a) len cap := by
      have : [Value.slice a0 n0 c0] = [Value.slice (some a) len cap] := hcs
      simpa using this
    rw [e]
    have hd : d = .slice (lits .i64 (zs.take len)) (lits .i64 (zs.drop len)) := congrArg Prod.fst hx
    have hzl' : zs.length = cap := by simpa using hzl
    refine ⟨zs.take len, fun G => .old a len cap _ (by simp; omega) ?_ hlc, (by intro b e off s n c hh; cases hh), ?_⟩
    · intro i x hx2
      have hi : i < len := by
        have := (List.getElem?_eq_some_iff.1 hx2).1
        simp at this; omega
      have hg := hget i (by omega)
      have hz : zs[i]? = some (zs.getD i 0) := by
        rw [List.getD_eq_getElem?_getD, List.getElem?_eq_getElem (by omega)]; rfl
      have hsp : (a.add i).spot.isSome = false := by
        unfold World.cell? at hg
        split at hg
        · split at hg
          · cases hg
          · rename_i hns; simpa using hns
        · cases hg
      unfold Mc oldM
      rw [hsp, if_neg (by decide), if_neg (by decide), hg]
      have : x = .int .i64 (zs.getD i 0) := by
        rw [List.getElem?_map, List.getElem?_take, if_pos hi, hz] at hx2
        simp only [Option.map_some, Option.some.injEq] at hx2
        exact hx2.symm
      rw [this]; rfl
    · rw [hd]
      simp only [Rows.uptoBulk, lits_bulk]
      omega

theorem run (W : World) (hL : laidMet Tryd.prog laidL W) {H : Type} {enc : TypeId × Value → H} {base : Nat} {v0 v1 v2 v3 : Value} {d0 d1 d2 d3 : DataW H} {p0 p1 p2 p3 : List MemPlace}
    (hv0 : Value.okWide Tryd.prog W .any base 24 v0) (h0 : DataW.Trod enc Tryd.prog W 0 (fun _ => true) true 24 v0 d0 p0)
    (hv1 : Value.okWide Tryd.prog W .any base 24 v1) (h1 : DataW.Trod enc Tryd.prog W 0 (fun _ => true) true 24 v1 d1 p1)
    (hv2 : Value.okWide Tryd.prog W .any base 25 v2) (h2 : DataW.Trod enc Tryd.prog W 0 (fun _ => true) true 25 v2 d2 p2)
    (hv3 : Value.okWide Tryd.prog W .any base 26 v3) (h3 : DataW.Trod enc Tryd.prog W 0 (fun _ => true) true 26 v3 d3 p3) (hb : Rows.uptoBulk d3 ≤ 1048576) :
    Calls Tryd.prog 5 #[v0, v1, v2, v3] W fun e W' => e = .returned (.bool true) ∧ Below W.heap.size W W' := by
  obtain ⟨n, p, x, z, rfl, hx, hz⟩ := open_pl hv0 h0
  obtain ⟨n', p', x', z', rfl, hx', hz'⟩ := open_pl hv1 h1
  obtain ⟨k, rfl, _⟩ := open_num (k := .i64) (by kernel_rfl) hv2 h2
  obtain ⟨qs, hq, hc, hl⟩ := open_ints64 hv3 h3
  refine run_true (args := [pl n x z p, pl n' x' z' p', .int .i64 k, absC v3]) Tryd.func5 (by kernel_rfl) rfl (oldM_ok W) (lawCarries (oldM W) (tabs_ok hL) hx hz hx' hz' hq hc (by omega)) ?_
  simp only [VRs]
  refine ⟨_, _, rfl, vr_pl n p x z, _, _, rfl, vr_pl n' p' x' z', _, _, rfl, ?_, _, _, rfl, VR_absC _ _, rfl⟩
  simp only [VR]


set_option maxRecDepth 100000 in
theorem contract (H : Type) (enc : TypeId × Value → H) (W : World) (base : Nat) (args : Array Value) (ds gs : List (DataW H)) (before : List MemPlace)
    (hval : ∀ (j : Nat) t v, Tryd.f5.params[j]? = some t → args[j]? = some v → Value.okWide Tryd.prog W .any base t v)
    (hW : DataW.Whole enc Tryd.prog Tryd.f5.params.toList Rows.pauliCarriesSpec.vars false W args.toList ds gs before) (hk : Rows.uptoSmall H (ds ++ gs) = true) (hL : laidMetH Tryd.prog Rows.pauliCarriesUptoRow.laid W) :
    Calls Tryd.prog 5 args W fun e W' => ∃ v, e = .returned v ∧ Rows.pauliCarriesSpec.post enc Tryd.prog Tryd.f5 false true false false W args v W' := by
  have hW' := hW
  obtain ⟨p, q, hA0, hV, rfl, hfz, hnd⟩ := hW
  have hA : DataW.TrodAll enc Tryd.prog W 0 (fun _ => true) true [24, 24, 25, 26] args.toList ds p := hA0
  have hbulk : Rows.uptoBulkAll (ds ++ gs) ≤ 1048576 := of_decide_eq_true hk
  obtain ⟨v0, vs0, d0, ds0, p0, q0, hargs0, hds0, hps0, h0, r0⟩ := trodAll_cons hA
  obtain ⟨v1, vs1, d1, ds1, p1, q1, hargs1, hds1, hps1, h1, r1⟩ := trodAll_cons r0
  obtain ⟨v2, vs2, d2, ds2, p2, q2, hargs2, hds2, hps2, h2, r2⟩ := trodAll_cons r1
  obtain ⟨v3, vs3, d3, ds3, p3, q3, hargs3, hds3, hps3, h3, r3⟩ := trodAll_cons r2
  obtain ⟨e1, e2, e3⟩ := trodAll_nil r3
  subst hds0
  subst hds1
  subst hds2
  subst hds3
  obtain rfl : args = #[v0, v1, v2, v3] := by
    refine Array.ext' ?_
    rw [hargs0, hargs1, hargs2, hargs3, e1]
  subst e2
  obtain ⟨rfl, rfl⟩ := trodVars_none hV
  have hv0 := hval 0 24 v0 rfl rfl
  have hv1 := hval 1 24 v1 rfl rfl
  have hv2 := hval 2 25 v2 rfl rfl
  have hv3 := hval 3 26 v3 rfl rfl
  simp only [List.cons_append, List.nil_append, Rows.uptoBulkAll] at hbulk
  have run := run W hL hv0 h0 hv1 h1 hv2 h2 hv3 h3 (by omega)
  refine run.mono fun e W' ⟨he, hb⟩ => ⟨.bool true, he, ?_⟩
  exact post_plain (tb := 4) (m := 9) hW' hb (by kernel_rfl) rfl rfl (by kernel_rfl) rfl rfl rfl

theorem own : ownKnob Tryd.prog.godebug = none := by kernel_rfl

def fillV (l : List Value) : Obj → Obj
  | .cells _ t frozen => .cells l.toArray t frozen
  | o => o
def ik (k : IntKind) (l : List Int) : List Value := l.map (.int k)
noncomputable def w0 (os : Os) : World := World.holding Tryd.prog os ⟨#[], #[], []⟩
noncomputable def laidWorld (os : Os) : World := { w0 os with heap := ((((w0 os).heap.modify 0 (fillV (ik .u8 [0, 1, 56, 2, 57, 49, 28, 3, 61, 58, 42, 50, 38, 29, 17, 4, 62, 47, 59, 36, 45, 43, 51, 22, 53, 39, 33, 30, 24, 18, 12, 5, 63, 55, 48, 27, 60, 41, 37, 16, 46, 35, 44, 21, 52, 32, 23, 11, 54, 26, 40, 15, 34, 20, 31, 10, 25, 14, 19, 9, 13, 8, 7, 6]))).modify 3 (fillV (ik .u8 [128, 191, 160, 191, 128, 159, 144, 191, 128, 143, 0, 0, 0, 0, 0, 0, 0, 0, 0, 0, 0, 0, 0, 0, 0, 0, 0, 0, 0, 0, 0, 0]))).modify 2 (fillV (ik .u8 (List.replicate 128 0xf0 ++ List.replicate 66 0xf1 ++ List.replicate 30 0x02 ++ [0x13] ++ List.replicate 12 0x03 ++ [0x23] ++ List.replicate 2 0x03 ++ [0x34] ++ List.replicate 3 0x04 ++ [0x44] ++ List.replicate 11 0xf1)))) }

theorem laid_met (os : Os) : laidMet Tryd.prog Rows.pauliCarriesUptoRow.laid ((laidWorld os).forCall (fun _ _ => 0) ⟨#[], #[.agg #[.int .i64 0, .int .u64 0, .int .u64 0, .int .i64 0], .agg #[.int .i64 0, .int .u64 0, .int .u64 0, .int .i64 0], .int .i64 0, .slice none 0 0], []⟩).memory :=
  laidMet_of_run' 8 (by kernel_rfl) (by kernel_rfl)
theorem reads (os : Os) {H : Type} (enc : TypeId × Value → H) : ∃ places, DataW.whole enc Tryd.prog ((laidWorld os).forCall (fun _ _ => 0) ⟨#[], #[.agg #[.int .i64 0, .int .u64 0, .int .u64 0, .int .i64 0], .agg #[.int .i64 0, .int .u64 0, .int .u64 0, .int .i64 0], .int .i64 0, .slice none 0 0], []⟩).memory Tryd.f5.params.toList Rows.pauliCarriesSpec.vars false #[.agg #[.int .i64 0, .int .u64 0, .int .u64 0, .int .i64 0], .agg #[.int .i64 0, .int .u64 0, .int .u64 0, .int .i64 0], .int .i64 0, .slice none 0 0].toList 8 = some ([.agg [.lit (.int .i64 0), .lit (.int .u64 0), .lit (.int .u64 0), .lit (.int .i64 0)], .agg [.lit (.int .i64 0), .lit (.int .u64 0), .lit (.int .u64 0), .lit (.int .i64 0)], .lit (.int .i64 0), .nil], [], places) :=
  ⟨[], by kernel_rfl⟩

set_option maxRecDepth 100000 in
theorem lifted (os : Os) (started : os.Started) (H : Type) (enc : TypeId × Value → H) (F : Stop.Interp) :
    ReturnsInHanded {} Tryd.checked os 5 .any ((Rows.OpenSpec.upto Rows.pauliCarriesSpec).preRow enc Tryd.prog Tryd.f5 Rows.pauliCarriesUptoRow.domain false Rows.pauliCarriesUptoRow.laid) (((Rows.OpenSpec.upto Rows.pauliCarriesSpec).at F).post enc Tryd.prog Tryd.f5 false true false false) := by
  obtain ⟨places, hx⟩ := reads os enc
  refine returnsInHanded_of_row (C := Tryd.checked) (s := Rows.OpenSpec.upto Rows.pauliCarriesSpec) own started (by kernel_rfl) Tryd.func5
    (witness_row_at (enc := enc) (C := Tryd.checked) false (laidWorld os) #[.agg #[.int .i64 0, .int .u64 0, .int .u64 0, .int .i64 0], .agg #[.int .i64 0, .int .u64 0, .int .u64 0, .int .i64 0], .int .i64 0, .slice none 0 0] rfl (by kernel_rfl) (by kernel_rfl) (by kernel_rfl)
      (OpenSpec.preRow_of_cond 8 hx (by kernel_rfl) (fun k hk => by cases hk; kernel_rfl) (by kernel_rfl) (laid_met os))) ?_
  intro W base args ds gs before hval hW _ hcond _ hL _ _
  exact contract H enc W base args ds gs before hval hW (hcond _ rfl) hL

theorem said : Rows.PauliCarriesUptoSaid :=
  OpenClaim.holds_of_cond 5 Tryd.f5 rfl rfl rfl rfl rfl rfl rfl ⟨rfl, rfl, rfl, rfl, rfl⟩ rfl rfl rfl rfl rfl (by kernel_rfl) Tryd.func5 (by kernel_rfl)
    (of_decide_eq_true (by kernel_rfl)) (by unfold Func.isWrapper; first | (rw [if_pos (by decide +kernel)]; kernel_rfl) | (rw [if_neg (by decide +kernel)]; exact ⟨rfl, rfl⟩))
    (fun os started H enc _ F => by rw [OpenClaim.pre_eq_preRow]; exact lifted os started H enc F)

theorem plain (f : FuncId) (fn : Func) (hf : Tryd.pinned.checked.prog.funcNamed "phasor/phasorlaw13.PauliCarries" = some f) (hfn : Tryd.pinned.checked.prog.funcs[f]? = some fn) :
    false = Tryd.pinned.checked.prog.looks [] ∧ ∀ (j : Nat) t, fn.params[j]? = some t → Tryd.pinned.checked.prog.wantsStandIn t = false := by
  obtain rfl : f = 5 := Option.some.inj ((show Tryd.prog.funcNamed "phasor/phasorlaw13.PauliCarries" = some 5 by kernel_rfl).symm.trans hf) |>.symm
  obtain rfl : fn = Tryd.f5 := (Option.some.inj (Tryd.func5.symm.trans hfn)).symm
  refine ⟨by kernel_rfl, fun j t ht => ?_⟩
  have hall : (#[24, 24, 25, 26].toList.all fun t => Tryd.prog.wantsStandIn t == false) = true := by kernel_rfl
  have := List.all_eq_true.1 hall t (by rw [Array.mem_toList_iff]; exact Array.mem_of_getElem? (show #[24, 24, 25, 26][j]? = some t from ht))
  exact eq_of_beq this

theorem card : Rows.PauliCarriesUptoCardSaid :=
  Claim7.holds_tied_plain_at .later [] _ _ _ _ said (fun _ h => by cases h) (by kernel_rfl) (fun _ h => by cases h) pauliCarriesUpto_row_tie rfl ⟨rfl, rfl⟩ (by kernel_rfl) rfl plain (by kernel_rfl)

end Go.Proofs.YtecfmnldanahiaaDoor.pauliCarries
