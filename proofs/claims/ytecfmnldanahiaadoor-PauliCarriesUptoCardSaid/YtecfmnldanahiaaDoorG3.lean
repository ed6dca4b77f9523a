/- Part of a claim: a long function of this program in pieces. -/
import Derived.Test.YtecfmnldanahiaaDoorG2
import Derived.Test.YtecfmnldanahiaaDoorAL
set_option linter.unusedSimpArgs false
set_option linter.unusedVariables false
namespace Go.Proofs.YtecfmnldanahiaaDoor.B
open Go Go.RowKit Go.Proofs.YtecfmnldanahiaaDoor.E

/-- A function's first piece: n statements; S stands for what is left. -/
theorem fcutA {M : Addr → Option AV} {k : FuncId} {fn : Func} {args : List AV} {H : Heap} {Q : AV → Heap → Prop} (n : Nat) (hf : Tryd.prog.funcs[k]? = some fn) (hname : (fn.name == "runtime.NumGoroutine") = false) (hb : fn.body.isSome = true) (hok : okC n (codeOf fn) = true) (hr : codeB noQ T (preC n (codeOf fn)) = true)
    (h : ∀ C L T' (S : List AV → Heap → Prop), Ty T' → Wk noQ Tryd.prog T' M C L → (∀ e h, SemC Tryd.prog M (sufC n (codeOf fn)) e h (PostF T M fn Q) → S e h) →
      xC noQ C L T' M (preC n (codeOf fn)) (args ++ List.replicate (fn.ntmps - args.length) (.tup [])) H (fun o e h => match o with | .normal => S e h | .exit _ => False | .ret => ∃ l, resA T' M e h fn.results.toList = some l ∧ Q (resultA l) h) .mk) : SemF Tryd.prog M k args H Q := by
  refine postF_body sound hf hname hb (xcutA sound n _ _ _ hok hr ?_)
  exact h (callX Tryd.prog M) (loopX noQ Tryd.prog T M) T (fun e h => SemC Tryd.prog M (sufC n (codeOf fn)) e h (PostF T M fn Q)) types (way (qt := noQ) sound) (fun _ _ h => h)

/-- The last piece. -/
theorem fend {M : Addr → Option AV} {fn : Func} {env : List AV} {H : Heap} {Q : AV → Heap → Prop} (m : Nat) (hr : codeB noQ T (sufC m (codeOf fn)) = true)
    (h : ∀ C L T', Ty T' → Wk noQ Tryd.prog T' M C L →
      xC noQ C L T' M (sufC m (codeOf fn)) env H (fun o e h => match o with | .exit _ => False | .normal => ∃ l, resA T' M e h fn.results.toList = some l ∧ Q (resultA l) h | .ret => ∃ l, resA T' M e h fn.results.toList = some l ∧ Q (resultA l) h) .mk) : SemC Tryd.prog M (sufC m (codeOf fn)) env H (PostF T M fn Q) :=
  (xC_sound sound _ _ _ _ hr (h _ _ T types (way (qt := noQ) sound))).mono fun o e h hq => by
    cases o with
    | normal => exact hq
    | exit i => exact hq
    | ret => exact hq

section
variable {qt : FuncId → Bool} {P : Program} {T : Tab} {M : Addr → Option AV} {ops : Array Oper} {H H1 H' : Heap} {B : HB} {o : Oper} {os : List Oper} {env env' : List AV} {K : List AV → Prop} {v : AV}

theorem RunP.step (hc : callOf o.op = none) (hg : wantedA ops env o = some true) (hk : heapKind0 T o.op ≠ 2) (h1 : evOp T M o.op (opv env) H = some (v, H)) (h2 : evOp T M o.op (opv env) (H ++ [B]) = some (v, H ++ [B])) (h : RunP qt P T M ops H B os (putA env o.dst v) K) : RunP qt P T M ops H B (o :: os) env K :=
  ⟨by rw [heapKind_op hc]; exact hk, v, .inl ⟨hg, by unfold StepD; rw [hc]; exact h1⟩, .inl ⟨hg, by unfold StepD; rw [hc]; exact h2⟩, h⟩
theorem RunP.call {k : FuncId} {args : List Operand} (hc : callOf o.op = some (.func k, args)) (hg : wantedA ops env o = some true) (hq : qt k = true) (h0 : ∀ G, SemF P M k (args.map (opv env)) G fun v' h' => v' = v ∧ h' = G) (h : RunP qt P T M ops H B os (putA env o.dst v) K) : RunP qt P T M ops H B (o :: os) env K := by
  have hqo : quietOp qt o.op = true := by unfold quietOp; rw [hc]; exact hq
  refine ⟨by rw [heapKind_call hc, hqo]; simp, v, .inl ⟨hg, ?_⟩, .inl ⟨hg, ?_⟩, h⟩
  · unfold StepD; rw [hc]; exact ⟨k, rfl, h0 _, fun _ => rfl⟩
  · unfold StepD; rw [hc]; exact ⟨k, rfl, h0 _, fun _ => rfl⟩
theorem RunD.step (hc : callOf o.op = none) (hg : wantedA ops env o = some true) (h1 : evOp T M o.op (opv env) H = some (v, H1)) (h : RunD qt P T M ops os (putA env o.dst v) H1 env' H') : RunD qt P T M ops (o :: os) env H env' H' :=
  ⟨v, H1, .inl ⟨hg, by unfold StepD; rw [hc]; exact h1⟩, h⟩
end

end Go.Proofs.YtecfmnldanahiaaDoor.B
