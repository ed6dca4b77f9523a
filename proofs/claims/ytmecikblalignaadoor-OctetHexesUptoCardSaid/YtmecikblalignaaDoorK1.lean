/- OctetHexes: for every input of the bulk that the row allows the law answers true, and its arguments read as they did: the card. Conditions: the row's own (the library's variables hold what the row lists; the bound on the bulk). (Printed by gen_card2.py.) -/
import Derived.Test.YtmecikblalignaaDoorCards
import Derived.Test.YtmecikblalignaaDoorTie
import Derived.Test.YtmecikblalignaaDoorED
import Derived.Test.YtmecikblalignaaDoorX5
set_option linter.unusedSimpArgs false
set_option linter.unusedVariables false
namespace Go.Proofs.YtmecikblalignaaDoor.octetHexes
open Go Go.RowKit Go.Proofs.YtmecikblalignaaDoor.E Go.Proofs.YtmecikblalignaaDoor.B Go.ChangeShapes Go.WideShapes Go.ChangeAt
set_option maxRecDepth 100000

theorem lits_bulk {H : Type} (k : IntKind) : ∀ zs : List Int, Rows.uptoBulkAll (lits k zs : List (DataW H)) = zs.length
  | [] => rfl
  | z :: zs => by
    have := lits_bulk (H := H) k zs
    show Rows.uptoBulk (DataW.lit (.int k z)) + Rows.uptoBulkAll (lits k zs) = _
    rw [this]
    simp only [Rows.uptoBulk, List.length_cons]
    omega

set_option maxRecDepth 100000 in
/-- A row of bytes, opened. -/
theorem open_bytes {H : Type} {enc : TypeId × Value → H} {W : World} {r : Reach} {b0 : Nat} {v : Value} {d : DataW H} {ps : List MemPlace} (hval : Value.okWide Tryd.prog W r b0 23 v) (h : DataW.Trod enc Tryd.prog W 0 (fun _ => true) true 23 v d ps) :
    ∃ bs : List UInt8, (∀ G, Sees (oldM W) G 1 (absC v) (cellsB bs)) ∧ flat (absC v) = true ∧ bs.length ≤ Rows.uptoBulk d := by
  have hu : Tryd.prog.underlying 23 = some (.slice 5) := by kernel_rfl
  obtain ⟨a0, n0, c0, rfl⟩ := okWide_slice hu hval
  obtain ⟨fuel, h⟩ := h
  rcases open_ints (k := .u8) hu (by kernel_rfl) (by kernel_rfl) h with ⟨h0, h1⟩ | ⟨a, len, cap, zs, hcs, _, hlc, _, hzl, hx, hget, hwf⟩
  · have e : (Value.slice a0 n0 c0) = .slice none 0 0 := by
      have : [Value.slice a0 n0 c0] = [Value.slice none 0 0] := h0
      simpa using this
    rw [e]
    exact ⟨[], fun G => .nil, rfl, by simp⟩
  · have e : (Value.slice a0 n0 c0) = .slice (some a) len cap := by
      have : [Value.slice a0 n0 c0] = [Value.slice (some a) len cap] := hcs
      simpa using this
    rw [e]
    have hd : d = .slice (lits .u8 (zs.take len)) (lits .u8 (zs.drop len)) := congrArg Prod.fst hx
    have hzl' : zs.length = cap := by simpa using hzl
    refine ⟨(zs.take len).map fun z => UInt8.ofNat z.toNat, fun G => .old a len cap _ (by simp; omega) ?_ hlc, rfl, ?_⟩
    · intro i x hx2
      have hi : i < len := by
        have := (List.getElem?_eq_some_iff.1 hx2).1
        simp at this; omega
      have hg := hget i (by omega)
      have hz : zs[i]? = some (zs.getD i 0) := by
        rw [List.getD_eq_getElem?_getD, List.getElem?_eq_getElem (by omega)]; rfl
      have hmem : zs.getD i 0 ∈ zs := List.mem_of_getElem? hz
      have hw := hwf _ hmem
      have hr : 0 ≤ zs.getD i 0 ∧ zs.getD i 0 < 256 := by
        have : (decide (IntKind.min .u8 ≤ zs.getD i 0) && decide (zs.getD i 0 ≤ IntKind.max .u8)) = true := hw
        simp only [Bool.and_eq_true, decide_eq_true_eq] at this
        have h1 : IntKind.min .u8 = 0 := by decide
        have h2 : IntKind.max .u8 = 255 := by decide
        omega
      have hsp : (a.add i).spot.isSome = false := by
        unfold World.cell? at hg
        split at hg
        · split at hg
          · cases hg
          · rename_i hns; simpa using hns
        · cases hg
      unfold Mc oldM
      rw [hsp, if_neg (by decide), if_neg (by decide), hg]
      have : x = .int .u8 (zs.getD i 0) := by
        rw [List.getElem?_map, List.getElem?_map, List.getElem?_take, if_pos hi, hz] at hx2
        simp only [Option.map_some, Option.some.injEq] at hx2
        rw [← hx2]
        unfold u8
        congr 1
        simp only [UInt8.toNat_ofNat']
        omega
      rw [this]; rfl
    · rw [hd]
      simp only [Rows.uptoBulk, lits_bulk, List.length_map]
      omega

theorem open_str {H : Type} {enc : TypeId × Value → H} {P : Program} {W : World} {r : Reach} {b0 : Nat} {v : Value} {d : DataW H} {ps : List MemPlace} {t : TypeId} (hu : P.underlying t = some .string) (hval : Value.okWide P W r b0 t v) (h : DataW.Trod enc P W 0 (fun _ => true) true t v d ps) :
    ∃ s : List UInt8, v = .string ⟨⟨s⟩⟩ ∧ s.length ≤ Rows.uptoBulk d := by
  obtain ⟨s, rfl⟩ := okWide_string hu hval
  obtain ⟨fuel, h⟩ := h
  obtain ⟨s', h1, h2, h3⟩ := DataW.trod_string hu h
  have e : [Value.string s] = [Value.string s'] := h1
  simp only [List.cons.injEq, Value.string.injEq, and_true] at e
  subst e
  have hd : d = .lit (.string s.data.toList) := congrArg Prod.fst h2
  exact ⟨s.data.toList, rfl, by rw [hd]; simp only [Rows.uptoBulk]; omega⟩

theorem run (W : World) (hL : laidMet Tryd.prog laidL W) {H : Type} {enc : TypeId × Value → H} {base : Nat} {v0 v1 : Value} {d0 d1 : DataW H} {p0 p1 : List MemPlace}
    (hv0 : Value.okWide Tryd.prog W .any base 23 v0) (h0 : DataW.Trod enc Tryd.prog W 0 (fun _ => true) true 23 v0 d0 p0)
    (hv1 : Value.okWide Tryd.prog W .any base 9 v1) (h1 : DataW.Trod enc Tryd.prog W 0 (fun _ => true) true 9 v1 d1 p1) (hb : Rows.uptoBulk d0 + Rows.uptoBulk d1 ≤ 1048576) :
    Calls Tryd.prog 4 #[v0, v1] W fun e W' => e = .returned (.bool true) ∧ Below W.heap.size W W' := by
  obtain ⟨bs, hq, hf, hl⟩ := open_bytes hv0 h0
  obtain ⟨s, rfl, hs⟩ := open_str (by kernel_rfl) hv1 h1
  refine run_true (args := [absC v0, .str s]) Tryd.func4 (by kernel_rfl) rfl (oldM_ok W) (lawHexes (oldM W) (tabs_ok hL) hq hf (by omega) (by omega)) ?_
  simp only [VRs]
  refine ⟨_, _, rfl, VR_absC _ _, _, _, rfl, ?_, rfl⟩
  simp only [VR]


set_option maxRecDepth 100000 in
theorem contract (H : Type) (enc : TypeId × Value → H) (W : World) (base : Nat) (args : Array Value) (ds gs : List (DataW H)) (before : List MemPlace)
    (hval : ∀ (j : Nat) t v, Tryd.f4.params[j]? = some t → args[j]? = some v → Value.okWide Tryd.prog W .any base t v)
    (hW : DataW.Whole enc Tryd.prog Tryd.f4.params.toList Rows.octetHexesSpec.vars false W args.toList ds gs before) (hk : Rows.uptoSmall H (ds ++ gs) = true) (hL : laidMetH Tryd.prog Rows.octetHexesUptoRow.laid W) :
    Calls Tryd.prog 4 args W fun e W' => ∃ v, e = .returned v ∧ Rows.octetHexesSpec.post enc Tryd.prog Tryd.f4 false true false false W args v W' := by
  have hW' := hW
  obtain ⟨p, q, hA0, hV, rfl, hfz, hnd⟩ := hW
  have hA : DataW.TrodAll enc Tryd.prog W 0 (fun _ => true) true [23, 9] args.toList ds p := hA0
  have hbulk : Rows.uptoBulkAll (ds ++ gs) ≤ 1048576 := of_decide_eq_true hk
  obtain ⟨v0, vs0, d0, ds0, p0, q0, hargs0, hds0, hps0, h0, r0⟩ := trodAll_cons hA
  obtain ⟨v1, vs1, d1, ds1, p1, q1, hargs1, hds1, hps1, h1, r1⟩ := trodAll_cons r0
  obtain ⟨e1, e2, e3⟩ := trodAll_nil r1
  subst hds0
  subst hds1
  obtain rfl : args = #[v0, v1] := by
    refine Array.ext' ?_
    rw [hargs0, hargs1, e1]
  subst e2
  obtain ⟨rfl, rfl⟩ := trodVars_none hV
  have hv0 := hval 0 23 v0 rfl rfl
  have hv1 := hval 1 9 v1 rfl rfl
  simp only [List.cons_append, List.nil_append, Rows.uptoBulkAll] at hbulk
  have run := run W hL hv0 h0 hv1 h1 (by omega)
  refine run.mono fun e W' ⟨he, hb⟩ => ⟨.bool true, he, ?_⟩
  exact post_plain (tb := 4) (m := 9) hW' hb (by kernel_rfl) rfl rfl (by kernel_rfl) rfl rfl rfl

theorem own : ownKnob Tryd.prog.godebug = none := by kernel_rfl

def fillV (l : List Value) : Obj → Obj
  | .cells _ t frozen => .cells l.toArray t frozen
  | o => o
def ik (k : IntKind) (l : List Int) : List Value := l.map (.int k)
noncomputable def w0 (os : Os) : World := World.holding Tryd.prog os ⟨#[], #[], []⟩
noncomputable def laidWorld (os : Os) : World := { w0 os with heap := (((w0 os).heap.modify 2 (fillV (ik .u8 [128, 191, 160, 191, 128, 159, 144, 191, 128, 143, 0, 0, 0, 0, 0, 0, 0, 0, 0, 0, 0, 0, 0, 0, 0, 0, 0, 0, 0, 0, 0, 0]))).modify 1 (fillV (ik .u8 (List.replicate 128 0xf0 ++ List.replicate 66 0xf1 ++ List.replicate 30 0x02 ++ [0x13] ++ List.replicate 12 0x03 ++ [0x23] ++ List.replicate 2 0x03 ++ [0x34] ++ List.replicate 3 0x04 ++ [0x44] ++ List.replicate 11 0xf1)))) }

theorem laid_met (os : Os) : laidMet Tryd.prog Rows.octetHexesUptoRow.laid ((laidWorld os).forCall (fun _ _ => 0) ⟨#[], #[.slice none 0 0, .string ⟨⟨[]⟩⟩], []⟩).memory :=
  laidMet_of_run' 8 (by kernel_rfl) (by kernel_rfl)
theorem reads (os : Os) {H : Type} (enc : TypeId × Value → H) : ∃ places, DataW.whole enc Tryd.prog ((laidWorld os).forCall (fun _ _ => 0) ⟨#[], #[.slice none 0 0, .string ⟨⟨[]⟩⟩], []⟩).memory Tryd.f4.params.toList Rows.octetHexesSpec.vars false #[.slice none 0 0, .string ⟨⟨[]⟩⟩].toList 8 = some ([.nil, .lit (.string [])], [], places) :=
  ⟨[], by kernel_rfl⟩

set_option maxRecDepth 100000 in
theorem lifted (os : Os) (started : os.Started) (H : Type) (enc : TypeId × Value → H) (F : Stop.Interp) :
    ReturnsInHanded {} Tryd.checked os 4 .any ((Rows.OpenSpec.upto Rows.octetHexesSpec).preRow enc Tryd.prog Tryd.f4 Rows.octetHexesUptoRow.domain false Rows.octetHexesUptoRow.laid) (((Rows.OpenSpec.upto Rows.octetHexesSpec).at F).post enc Tryd.prog Tryd.f4 false true false false) := by
  obtain ⟨places, hx⟩ := reads os enc
  refine returnsInHanded_of_row (C := Tryd.checked) (s := Rows.OpenSpec.upto Rows.octetHexesSpec) own started (by kernel_rfl) Tryd.func4
    (witness_row_at (enc := enc) (C := Tryd.checked) false (laidWorld os) #[.slice none 0 0, .string ⟨⟨[]⟩⟩] rfl (by kernel_rfl) (by kernel_rfl) (by kernel_rfl)
      (OpenSpec.preRow_of_cond 8 hx (by kernel_rfl) (fun k hk => by cases hk; kernel_rfl) (by kernel_rfl) (laid_met os))) ?_
  intro W base args ds gs before hval hW _ hcond _ hL _ _
  exact contract H enc W base args ds gs before hval hW (hcond _ rfl) hL

theorem said : Rows.OctetHexesUptoSaid :=
  OpenClaim.holds_of_cond 4 Tryd.f4 rfl rfl rfl rfl rfl rfl rfl ⟨rfl, rfl, rfl, rfl, rfl⟩ rfl rfl rfl rfl rfl (by kernel_rfl) Tryd.func4 (by kernel_rfl)
    (of_decide_eq_true (by kernel_rfl)) (by unfold Func.isWrapper; first | (rw [if_pos (by decide +kernel)]; kernel_rfl) | (rw [if_neg (by decide +kernel)]; exact ⟨rfl, rfl⟩))
    (fun os started H enc _ F => by rw [OpenClaim.pre_eq_preRow]; exact lifted os started H enc F)

theorem plain (f : FuncId) (fn : Func) (hf : Tryd.pinned.checked.prog.funcNamed "phasor/phasorlaw01.OctetHexes" = some f) (hfn : Tryd.pinned.checked.prog.funcs[f]? = some fn) :
    false = Tryd.pinned.checked.prog.looks [] ∧ ∀ (j : Nat) t, fn.params[j]? = some t → Tryd.pinned.checked.prog.wantsStandIn t = false := by
  obtain rfl : f = 4 := Option.some.inj ((show Tryd.prog.funcNamed "phasor/phasorlaw01.OctetHexes" = some 4 by kernel_rfl).symm.trans hf) |>.symm
  obtain rfl : fn = Tryd.f4 := (Option.some.inj (Tryd.func4.symm.trans hfn)).symm
  refine ⟨by kernel_rfl, fun j t ht => ?_⟩
  have hall : (#[23, 9].toList.all fun t => Tryd.prog.wantsStandIn t == false) = true := by kernel_rfl
  have := List.all_eq_true.1 hall t (by rw [Array.mem_toList_iff]; exact Array.mem_of_getElem? (show #[23, 9][j]? = some t from ht))
  exact eq_of_beq this

theorem card : Rows.OctetHexesUptoCardSaid :=
  Claim7.holds_tied_plain_at .later [] _ _ _ _ said (fun _ h => by cases h) (by kernel_rfl) (fun _ h => by cases h) octetHexesUpto_row_tie rfl ⟨rfl, rfl⟩ (by kernel_rfl) rfl plain (by kernel_rfl)

end Go.Proofs.YtmecikblalignaaDoor.octetHexes
