/- Part of a claim: the card of OctetNobody: for every piece the law answers true, and what was there stays. -/
import Derived.Test.YtnmignkabcblgaaDoorB5
import Derived.Test.YtnmignkabcblgaaDoorCards
import Derived.Test.YtnmignkabcblgaaDoorTie
set_option linter.unusedSimpArgs false
set_option linter.unusedVariables false
namespace Go.Proofs.YtnmignkabcblgaaDoor.B
open Go Go.RowKit Go.Proofs.YtnmignkabcblgaaDoor.E Go.ChangeShapes Go.WideShapes Go.ChangeAt

theorem trod_float {H : Type} {enc : TypeId × Value → H} {P : Program} {w : World} {base : Nat} {sp : Nat → Bool} {held : Bool} {fuel : Nat} {t : TypeId} {k : FloatKind} {cs : List Value} {x : DataW H × List MemPlace} (ht : P.underlying t = some (.float k)) (h : DataW.trod enc P w base sp held fuel t cs = some x) : ∃ b, cs = [.float k b] := by
  cases fuel with
  | zero => simp [DataW.trod] at h
  | succ n =>
    unfold DataW.trod at h
    simp only [ht] at h
    split at h <;> simp_all
    all_goals (obtain ⟨⟨rfl, _⟩, _⟩ := h; exact ⟨_, rfl, rfl⟩)

theorem five (l : List Value) (hl : l.length = 5) {a b c d e : Value} (h0 : (l.drop 0).take 1 = [a]) (h1 : (l.drop 1).take 1 = [b]) (h2 : (l.drop 2).take 1 = [c]) (h3 : (l.drop 3).take 1 = [d]) (h4 : (l.drop 4).take 1 = [e]) : l = [a, b, c, d, e] := by
  match l, hl with
  | [a0, a1, a2, a3, a4], _ =>
    simp at h0 h1 h2 h3 h4
    rw [h0, h1, h2, h3, h4]

set_option maxRecDepth 100000 in
/-- A piece, opened. -/
theorem open_piece {H : Type} {enc : TypeId × Value → H} {W : World} {b0 : Nat} {r : Reach} {base : Nat} {sp : Nat → Bool} {held : Bool} {v : Value} {d : DataW H} {ps : List MemPlace} (hval : Value.okWide Tryd.prog W r b0 32 v) (h : DataW.Trod enc Tryd.prog W base sp held 32 v d ps) :
    ∃ k n f g s, v = .agg #[.int .i64 k, .int .u64 n, .float .f64 f, .float .f32 g, .string s] := by
  have hu : Tryd.prog.underlying 32 = some (.struct #[{ name := "Kind", type := 3, offset := 0, embedded := false, tag := "", pkgPath := "", byteOffset := 0 }, { name := "N", type := 28, offset := 1, embedded := false, tag := "", pkgPath := "", byteOffset := 8 }, { name := "F", type := 29, offset := 2, embedded := false, tag := "", pkgPath := "", byteOffset := 16 }, { name := "G", type := 30, offset := 3, embedded := false, tag := "", pkgPath := "", byteOffset := 24 }, { name := "S", type := 9, offset := 4, embedded := false, tag := "", pkgPath := "", byteOffset := 32 }]) := by kernel_rfl
  unfold Value.okWide at hval
  rw [hu] at hval
  obtain ⟨cs, rfl, _, _⟩ := hval
  obtain ⟨fuel, h⟩ := h
  obtain ⟨xs, m, _, _, hl, hx, hf⟩ := DataW.trod_struct hu h
  have hc : ∀ t, t = 3 ∨ t = 28 ∨ t = 29 ∨ t = 30 ∨ t = 9 → Tryd.prog.cellsOf t = 1 := fun t ht => by rcases ht with rfl | rfl | rfl | rfl | rfl <;> kernel_rfl
  have get : ∀ i, i < 5 → ∃ y, xs[i]? = some y := fun i hi => ⟨xs[i]'(by rw [hx]; exact hi), by simp⟩
  obtain ⟨y0, g0⟩ := get 0 (by omega)
  obtain ⟨y1, g1⟩ := get 1 (by omega)
  obtain ⟨y2, g2⟩ := get 2 (by omega)
  obtain ⟨y3, g3⟩ := get 3 (by omega)
  obtain ⟨y4, g4⟩ := get 4 (by omega)
  obtain ⟨k, e0, _⟩ := DataW.trod_int (k := .i64) (by kernel_rfl) ((hf 0 _ rfl).trans g0)
  obtain ⟨n, e1, _⟩ := DataW.trod_int (k := .u64) (by kernel_rfl) ((hf 1 _ rfl).trans g1)
  obtain ⟨f, e2⟩ := trod_float (k := .f64) (by kernel_rfl) ((hf 2 _ rfl).trans g2)
  obtain ⟨g, e3⟩ := trod_float (k := .f32) (by kernel_rfl) ((hf 3 _ rfl).trans g3)
  obtain ⟨s, e4, _⟩ := DataW.trod_string (by kernel_rfl) ((hf 4 _ rfl).trans g4)
  rw [hc _ (by simp)] at e0 e1 e2 e3 e4
  have hl5 : (Value.agg cs).cells.toList.length = 5 := hl.trans (by kernel_rfl)
  exact ⟨k, n, f, g, s, congrArg Value.agg (Array.ext' (five _ hl5 e0 e1 e2 e3 e4))⟩

theorem run (W : World) (hL : laidMet Tryd.prog Rows.octetNobodyRow.laid W) (k n : Int) (f g : Nat) (s : ByteArray) :
    Calls Tryd.prog 7 #[.agg #[.int .i64 k, .int .u64 n, .float .f64 f, .float .f32 g, .string s]] W fun e W' => e = .returned (.bool true) ∧ Below W.heap.size W W' := by
  have h := law (oldM W) (tabs hL) k n f g s.data.toList W W (fun _ _ => none) #[.agg #[.int .i64 k, .int .u64 n, .float .f64 f, .float .f32 g, .string s]] (oldM_ok W) (Rel.start W) (by
    simp only [VRs]
    refine ⟨_, _, rfl, ?_, rfl⟩
    simp only [VR]
    refine ⟨_, rfl, ?_⟩
    simp only [VRs]
    refine ⟨_, _, rfl, ?_, _, _, rfl, ?_, _, _, rfl, ?_, _, _, rfl, ?_, _, _, rfl, ?_, rfl⟩ <;> simp only [VR]
    · exact ⟨f, rfl, .inl rfl⟩
    · exact ⟨g, rfl, .inl rfl⟩)
  refine (h.calls Tryd.func7 (by kernel_rfl) rfl).mono fun e W' he => ?_
  cases e with
  | returned cv =>
    obtain ⟨v, H', ρ', rfl, _, hv, hr⟩ := he
    simp only [VR] at hv
    exact ⟨by rw [hv], hr.below⟩
  | panicked => exact he.elim
  | outgrown => exact he.elim

set_option maxRecDepth 100000 in
theorem contract (H : Type) (enc : TypeId × Value → H) (W : World) (base : Nat) (args : Array Value) (ds gs : List (DataW H)) (before : List MemPlace)
    (hval : ∀ (j : Nat) t v, Tryd.f7.params[j]? = some t → args[j]? = some v → Value.okWide Tryd.prog W .any base t v)
    (hW : DataW.Whole enc Tryd.prog Tryd.f7.params.toList Rows.octetNobodySpec.vars false W args.toList ds gs before) (hL : laidMetH Tryd.prog Rows.octetNobodyRow.laid W) :
    Calls Tryd.prog 7 args W fun e W' => ∃ v, e = .returned v ∧ Rows.octetNobodySpec.post enc Tryd.prog Tryd.f7 false true false false W args v W' := by
  have hW' := hW
  obtain ⟨p, q, hA0, hV, rfl, hfz, hnd⟩ := hW
  have hA : DataW.TrodAll enc Tryd.prog W 0 (fun _ => true) true [32] args.toList ds p := hA0
  obtain ⟨v0, vs0, d0, ds0, p0, q0, hargs, rfl, rfl, h0, r0⟩ := trodAll_cons hA
  obtain ⟨rfl, rfl, rfl⟩ := trodAll_nil r0
  obtain rfl : args = #[v0] := by cases args; simp_all
  obtain ⟨rfl, rfl⟩ := trodVars_none hV
  obtain ⟨k, n, f, g, s, rfl⟩ := open_piece (hval 0 32 v0 rfl rfl) h0
  refine (run W hL k n f g s).mono fun e W' ⟨he, hb⟩ => ⟨.bool true, he, ?_⟩
  exact post_plain (tb := 4) (m := 9) hW' hb (by kernel_rfl) rfl rfl (by kernel_rfl) rfl rfl rfl

end Go.Proofs.YtnmignkabcblgaaDoor.B
