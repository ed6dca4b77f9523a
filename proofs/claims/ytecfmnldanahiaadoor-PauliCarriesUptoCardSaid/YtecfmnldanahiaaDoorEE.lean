/- Part of a claim: a long function in pieces. Nothing of a program stands here. -/
import Derived.Test.YtecfmnldanahiaaDoorED
set_option linter.unusedSimpArgs false
set_option linter.unusedVariables false
namespace Go.Proofs.YtecfmnldanahiaaDoor.E
open Go Go.RowKit
variable {qt : FuncId → Bool}

def preC : Nat → Code → Code
  | 0, _ => .skip
  | n + 1, .seq a b => .seq a (preC n b)
  | _ + 1, c => c
def sufC : Nat → Code → Code
  | 0, c => c
  | n + 1, .seq _ b => sufC n b
  | _ + 1, _ => .skip
def okC : Nat → Code → Bool
  | 0, _ => true
  | n + 1, .seq _ b => okC n b
  | _ + 1, _ => false
def codeOf (fn : Func) : Code :=
  match fn.body with
  | some c => c
  | none => .skip

/-- What is asked behind a function's code. -/
def PostF (T : Tab) (M : Addr → Option AV) (fn : Func) (Q : AV → Heap → Prop) : Out → List AV → Heap → Prop := fun o e h =>
  match o with
  | .exit _ => False
  | .normal => ∃ l, resA T M e h fn.results.toList = some l ∧ Q (resultA l) h
  | .ret => ∃ l, resA T M e h fn.results.toList = some l ∧ Q (resultA l) h

theorem xcut {P : Program} {T : Tab} {M : Addr → Option AV} (hS : Sound P T) {Q : Out → List AV → Heap → Prop} : ∀ (n : Nat) (c : Code) (env : List AV) (H : Heap), okC n c = true → codeB qt T c = true →
    xC qt (callX P M) (loopX qt P T M) T M (preC n c) env H (fun o e h => match o with | .normal => SemC P M (sufC n c) e h Q | .exit i => Q (.exit i) e h | .ret => Q .ret e h) .mk → SemC P M c env H Q
  | 0, c, env, H, _, _, h => h
  | n + 1, c, env, H, hok, hb, h => by
    cases c with
    | seq a b =>
      simp only [codeB, Bool.and_eq_true] at hb
      refine .seq ((xC_sound hS a env H _ hb.1 h).mono fun o e h' hq => ?_)
      cases o with
      | normal => exact xcut hS n b e h' hok hb.2 hq
      | exit i => exact hq
      | ret => exact hq
    | _ => cases hok

theorem postF_body {P : Program} {T : Tab} {M : Addr → Option AV} (hS : Sound P T) {k : FuncId} {fn : Func} {args : List AV} {H : Heap} {Q : AV → Heap → Prop} (hf : P.funcs[k]? = some fn) (hname : (fn.name == "runtime.NumGoroutine") = false) (hb : fn.body.isSome = true)
    (h : SemC P M (codeOf fn) (args ++ List.replicate (fn.ntmps - args.length) (.tup [])) H (PostF T M fn Q)) : SemF P M k args H Q := by
  obtain ⟨c, hc⟩ := Option.isSome_iff_exists.1 hb
  have e : codeOf fn = c := by unfold codeOf; rw [hc]
  rw [e] at h
  exact SemF.body hS hf hname hc (h.mono fun o e h' hq => by
    cases o with
    | normal => exact ⟨trivial, hq⟩
    | exit i => exact hq.elim
    | ret => exact ⟨trivial, hq⟩)

end Go.Proofs.YtecfmnldanahiaaDoor.E
