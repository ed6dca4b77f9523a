/- Part of a claim: a table of pairs, out of what a row lists. Nothing of a program stands here. -/
import Derived.Test.YtnmignkabcblgaaDoorE21
set_option linter.unusedSimpArgs false
set_option linter.unusedVariables false
namespace Go.Proofs.YtnmignkabcblgaaDoor.E
open Go Go.RowKit Go.ChangeShapes Go.WideShapes

theorem CallsF.calls {P : Program} {k : FuncId} {fn : Func} {c : Code} {args : Array Value} {W : World} {R : Value → World → Prop} (hf : P.funcs[k]? = some fn) (hname : (fn.name == "runtime.NumGoroutine") = false) (hb : fn.body = some c) (h : CallsF P k args W R) :
    Calls P k args W fun | .returned v, W' => R v W' | _, _ => False := by
  rcases h with ⟨_, h⟩ | ⟨cv, W', h, _⟩
  · exact h
  · have h1 : fn.name ≠ "runtime.NumGoroutine" := by simpa using hname
    simp [callFunc, hf, h1, hb] at h

theorem cells_of_pairs {H : Type} {enc : TypeId × Value → H} {P : Program} {w : World} {base : Nat} {sp : Nat → Bool} {held : Bool} {fuel : Nat} {t e : TypeId} {n : Nat} {k : IntKind} {f0 f1 : Field} {cs : List Value} {zs : List (Int × Int)} {p : List MemPlace}
    (ht : P.underlying t = some (.array n e)) (he : P.underlying e = some (.struct #[f0, f1])) (o0 : f0.offset = 0) (o1 : f1.offset = 1) (t0 : P.underlying f0.type = some (.int k)) (t1 : P.underlying f1.type = some (.int k))
    (c0 : P.cellsOf f0.type = 1) (c1 : P.cellsOf f1.type = 1) (ce : P.cellsOf e = 2)
    (h : DataW.trod enc P w base sp held fuel t cs = some (.agg (zs.map fun z => .agg [.lit (.int k z.1), .lit (.int k z.2)]), p)) (i : Nat) (z : Int × Int) (hz : zs[i]? = some z) : cs[2 * i]? = some (.int k z.1) ∧ cs[2 * i + 1]? = some (.int k z.2) := by
  cases fuel with
  | zero => simp [DataW.trod] at h
  | succ fuel =>
    simp only [DataW.trod, ht, ce] at h
    split at h
    · obtain ⟨xs, hm, hx⟩ := Option.map_eq_some_iff.1 h
      have hxs : xs.map (·.1) = zs.map fun z => (DataW.agg [.lit (.int k z.1), .lit (.int k z.2)] : DataW H) := by
        have := congrArg Prod.fst hx
        simpa using this
      have hxl : xs.length = n := by simpa using Lib.mapM_length hm
      have hzl : zs.length = n := by
        have := congrArg List.length hxs
        simp at this
        omega
      have hi : i < n := by rw [← hzl]; exact (List.getElem?_eq_some_iff.1 hz).1
      obtain ⟨b, hb, hf⟩ := Lib.mapM_at hm i i (by simp [hi])
      have hb1 : b.1 = .agg [.lit (.int k z.1), .lit (.int k z.2)] := by
        have h2 : (xs.map (·.1))[i]? = some b.1 := by simp [hb]
        rw [hxs] at h2
        simpa [hz] using h2.symm
      cases fuel with
      | zero => simp [DataW.trod] at hf
      | succ fuel =>
        simp only [DataW.trod, he, ce] at hf
        split at hf
        · obtain ⟨ys, hm2, hy⟩ := Option.map_eq_some_iff.1 hf
          have hy1 : ys.map (·.1) = [.lit (.int k z.1), .lit (.int k z.2)] := by
            have := congrArg Prod.fst hy
            rw [hb1] at this
            simpa using this
          obtain ⟨b0, hb0, hf0⟩ := Lib.mapM_at hm2 0 f0 (by simp)
          obtain ⟨b1, hb1', hf1⟩ := Lib.mapM_at hm2 1 f1 (by simp)
          obtain ⟨z0, hc0, hz0, _⟩ := DataW.trod_int t0 hf0
          obtain ⟨z1, hc1, hz1, _⟩ := DataW.trod_int t1 hf1
          have e0 : (ys.map (·.1))[0]? = some b0.1 := by simp [hb0]
          have e1 : (ys.map (·.1))[1]? = some b1.1 := by simp [hb1']
          rw [hy1] at e0 e1
          simp only [List.getElem?_cons_zero, List.getElem?_cons_succ, Option.some.injEq] at e0 e1
          rw [hz0] at e0
          rw [hz1] at e1
          simp only [DataW.lit.injEq, Lit.int.injEq, true_and] at e0 e1
          rw [← e0] at hc0
          rw [← e1] at hc1
          rw [o0, c0] at hc0
          rw [o1, c1] at hc1
          constructor
          · have := congrArg (·[0]?) hc0
            simpa [List.getElem?_take, List.getElem?_drop, Nat.mul_comm] using this
          · have := congrArg (·[0]?) hc1
            simpa [List.getElem?_take, List.getElem?_drop, Nat.mul_comm] using this
        · cases hf
    · cases h

end Go.Proofs.YtnmignkabcblgaaDoor.E
