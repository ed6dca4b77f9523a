/- Part of a claim: this program's long functions in pieces. -/
import Derived.Test.YtpddepehlinfnaaGreatDoorG2
import Derived.Test.YtpddepehlinfnaaGreatDoorEE
set_option linter.unusedSimpArgs false
set_option linter.unusedVariables false
namespace Go.Proofs.YtpddepehlinfnaaGreatDoor.B
open Go Go.RowKit Go.Proofs.YtpddepehlinfnaaGreatDoor.E

/-- A function's first piece: n statements; S stands for what is left. -/
theorem fcut {M : Addr → Option AV} {k : FuncId} {fn : Func} {args : List AV} {H : Heap} {Q : AV → Heap → Prop} (n : Nat) (hf : Tryz.prog.funcs[k]? = some fn) (hname : (fn.name == "runtime.NumGoroutine") = false) (hb : fn.body.isSome = true) (hok : okC n (codeOf fn) = true) (hr : codeB noQ T (codeOf fn) = true)
    (h : ∀ C L T' (S : List AV → Heap → Prop), Ty T' → Wk noQ Tryz.prog T' M C L → (∀ e h, SemC Tryz.prog M (sufC n (codeOf fn)) e h (PostF T M fn Q) → S e h) →
      xC noQ C L T' M (preC n (codeOf fn)) (args ++ List.replicate (fn.ntmps - args.length) (.tup [])) H (fun o e h => match o with | .normal => S e h | .exit _ => False | .ret => ∃ l, resA T' M e h fn.results.toList = some l ∧ Q (resultA l) h) .mk) : SemF Tryz.prog M k args H Q := by
  refine postF_body sound hf hname hb (xcut sound n _ _ _ hok hr ?_)
  exact h (callX Tryz.prog M) (loopX noQ Tryz.prog T M) T (fun e h => SemC Tryz.prog M (sufC n (codeOf fn)) e h (PostF T M fn Q)) types (way (qt := noQ) sound) (fun _ _ h => h)

/-- A further piece: from statement m on, n statements. -/
theorem fmid {M : Addr → Option AV} {fn : Func} {env : List AV} {H : Heap} {Q : AV → Heap → Prop} (m n : Nat) (hok : okC n (sufC m (codeOf fn)) = true) (hr : codeB noQ T (sufC m (codeOf fn)) = true)
    (h : ∀ C L T' (S : List AV → Heap → Prop), Ty T' → Wk noQ Tryz.prog T' M C L → (∀ e h, SemC Tryz.prog M (sufC n (sufC m (codeOf fn))) e h (PostF T M fn Q) → S e h) →
      xC noQ C L T' M (preC n (sufC m (codeOf fn))) env H (fun o e h => match o with | .normal => S e h | .exit _ => False | .ret => ∃ l, resA T' M e h fn.results.toList = some l ∧ Q (resultA l) h) .mk) : SemC Tryz.prog M (sufC m (codeOf fn)) env H (PostF T M fn Q) := by
  refine xcut sound n _ _ _ hok hr ?_
  exact h (callX Tryz.prog M) (loopX noQ Tryz.prog T M) T (fun e h => SemC Tryz.prog M (sufC n (sufC m (codeOf fn))) e h (PostF T M fn Q)) types (way (qt := noQ) sound) (fun _ _ h => h)

/-- The last piece. -/
theorem fend {M : Addr → Option AV} {fn : Func} {env : List AV} {H : Heap} {Q : AV → Heap → Prop} (m : Nat) (hr : codeB noQ T (sufC m (codeOf fn)) = true)
    (h : ∀ C L T', Ty T' → Wk noQ Tryz.prog T' M C L →
      xC noQ C L T' M (sufC m (codeOf fn)) env H (fun o e h => match o with | .exit _ => False | .normal => ∃ l, resA T' M e h fn.results.toList = some l ∧ Q (resultA l) h | .ret => ∃ l, resA T' M e h fn.results.toList = some l ∧ Q (resultA l) h) .mk) : SemC Tryz.prog M (sufC m (codeOf fn)) env H (PostF T M fn Q) :=
  (xC_sound sound _ _ _ _ hr (h _ _ T types (way (qt := noQ) sound))).mono fun o e h hq => by
    cases o with
    | normal => exact hq
    | exit i => exact hq
    | ret => exact hq

end Go.Proofs.YtpddepehlinfnaaGreatDoor.B
