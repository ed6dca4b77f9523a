/- Part of a claim: what a row's reading says of arguments without pointers. Nothing of a program stands here. -/
import Derived.Test.YtpddepehlinfnaaGreatDoorPEC
import Derived.ChangeSlices
set_option linter.unusedSimpArgs false
set_option linter.unusedVariables false
namespace Go.Proofs.YtpddepehlinfnaaGreatDoor.E
open Go Go.RowKit Go.ChangeShapes Go.WideShapes Go.ChangeAt

inductive Leaf where
  | bool
  | int (k : IntKind)
  | float (k : FloatKind)
  | str

def Fits : Leaf → Value → Prop
  | .bool, v => ∃ b, v = .bool b
  | .int k, v => ∃ n, v = .int k n ∧ k.min ≤ n ∧ n ≤ k.max
  | .float k, v => ∃ b, v = .float k b ∧ (Lit.float k b).wf = true
  | .str, v => ∃ s : List UInt8, v = .string ⟨⟨s⟩⟩ ∧ s.length ≤ maxLen

def Fit2 : List Leaf → List Value → Prop
  | [], [] => True
  | k :: ks, v :: vs => Fits k v ∧ Fit2 ks vs
  | _, _ => False

theorem Fit2.append : ∀ {ks ks' : List Leaf} {vs vs' : List Value}, Fit2 ks vs → Fit2 ks' vs' → Fit2 (ks ++ ks') (vs ++ vs')
  | [], _, [], _, _, h => h
  | [], _, _ :: _, _, h, _ => h.elim
  | _ :: _, _, [], _, h, _ => h.elim
  | _ :: _, _, _ :: _, _, ⟨h1, h2⟩, h => ⟨h1, Fit2.append h2 h⟩

theorem open_num {H : Type} {enc : TypeId × Value → H} {P : Program} {W : World} {r : Reach} {b0 : Nat} {v : Value} {d : DataW H} {ps : List MemPlace} {t : TypeId} {k : IntKind} (hu : P.underlying t = some (.int k)) (hval : Value.okWide P W r b0 t v) (h : DataW.Trod enc P W 0 (fun _ => true) true t v d ps) :
    ∃ n, v = .int k n ∧ k.min ≤ n ∧ n ≤ k.max := by
  obtain ⟨n, rfl⟩ := okWide_int hu hval
  obtain ⟨fuel, h⟩ := h
  obtain ⟨m, h1, _, h3⟩ := DataW.trod_int hu h
  have e : [Value.int k n] = [Value.int k m] := h1
  simp only [List.cons.injEq, Value.int.injEq, true_and, and_true] at e
  subst e
  have h4 : (decide (k.min ≤ n) && decide (n ≤ k.max)) = true := h3
  simp only [Bool.and_eq_true, decide_eq_true_eq] at h4
  exact ⟨n, rfl, h4⟩

/-- What is run, out of a contract. -/
theorem run_true {P : Program} {k : FuncId} {fn : Func} {c : Code} {M : Addr → Option AV} {args : List AV} {cargs : Array Value} {W : World} (hf : P.funcs[k]? = some fn) (hname : (fn.name == "runtime.NumGoroutine") = false) (hb : fn.body = some c)
    (hM : MOK M W) (h : SemF P M k args [] fun v _ => v = .bool true) (ha : VRs (fun _ _ => none) args cargs.toList) : Calls P k cargs W fun e W' => e = .returned (.bool true) ∧ Below W.heap.size W W' := by
  refine ((h W W (fun _ _ => none) cargs hM (Rel.start W) ha).calls hf hname hb).mono fun e W' he => ?_
  cases e with
  | returned cv =>
    obtain ⟨v, H', ρ', rfl, _, hv, hr⟩ := he
    simp only [VR] at hv
    exact ⟨by rw [hv], hr.below⟩
  | panicked => exact he.elim
  | outgrown => exact he.elim

end Go.Proofs.YtpddepehlinfnaaGreatDoor.E
