/- Part of a claim: code and calls. Nothing of a program stands here. -/
import Derived.Test.YtnmignkabcblgaaDoorE18
import Derived.Deep.LoopGhost
set_option linter.unusedSimpArgs false
set_option linter.unusedVariables false
namespace Go.Proofs.YtnmignkabcblgaaDoor.E
open Go Go.RowKit

def exitOf : Out → Exit
  | .normal => .normal
  | .exit i => .exit i
  | .ret => .ret

/-- What code comes to. -/
def SemC (P : Program) (M : Addr → Option AV) (c : Code) (env : List AV) (H : Heap) (Q : Out → List AV → Heap → Prop) : Prop :=
  ∀ (W0 W : World) (ρ : Asg) (a : Act), MOK M W0 → Rel ρ H W0 W → RelEnv ρ env a →
    c.wp P (fun e a' W' => ∃ o env' H' ρ', e = exitOf o ∧ Q o env' H' ∧ Le ρ ρ' ∧ RelEnv ρ' env' a' ∧ Rel ρ' H' W0 W') a W

/-- What is asked of a program. -/
structure Sound (P : Program) (T : Tab) : Prop where
  tok : TOK P T
  mixed : P.follows .mixedOrders = true

section
variable {P : Program} {T : Tab} {M : Addr → Option AV} {env env' : List AV} {H H' : Heap} {Q : Out → List AV → Heap → Prop}

theorem SemC.mono {c : Code} {Q' : Out → List AV → Heap → Prop} (h : SemC P M c env H Q) (hq : ∀ o e h, Q o e h → Q' o e h) : SemC P M c env H Q' :=
  fun W0 W ρ a hM hR q => wp_mono (h W0 W ρ a hM hR q) fun _ _ _ ⟨o, env', H', ρ', h1, h2, h3⟩ => ⟨o, env', H', ρ', h1, hq _ _ _ h2, h3⟩

theorem SemC.skip (h : Q .normal env H) : SemC P M .skip env H Q := fun _ _ ρ _ _ hR q => wp_skip ⟨.normal, env, H, ρ, rfl, h, Le.refl ρ, q, hR⟩
theorem SemC.exit {id : Nat} (h : Q (.exit id) env H) : SemC P M (.exit id) env H Q := fun _ _ ρ _ _ hR q => wp_exit ⟨.exit id, env, H, ρ, rfl, h, Le.refl ρ, q, hR⟩
theorem SemC.ret (h : Q .ret env H) : SemC P M .ret env H Q := fun _ _ ρ _ _ hR q => wp_ret ⟨.ret, env, H, ρ, rfl, h, Le.refl ρ, q, hR⟩

theorem SemC.drawn (hS : Sound P T) {id : Nat} {ops : Array Oper} (hreg : regB T ops = true) (hrun : RunD P T M ops ops.toList env H env' H') (h : Q .normal env' H') : SemC P M (.region id ops true) env H Q :=
  fun _ _ _ _ hM hR q => wp_region_drawn hS.mixed hS.tok hM hreg hrun q hR fun ρ' _ _ l q' r' => ⟨.normal, env', H', ρ', rfl, h, l, q', r'⟩

theorem SemC.text (hS : Sound P T) {id : Nat} {ops : Array Oper} (hrun : RunQ P T M ops ops.toList env H fun e h => Q .normal e h) : SemC P M (.region id ops false) env H Q :=
  fun _ _ _ _ hM hR q => wp_region_text hS.tok hM hrun q hR fun env' H' ρ' _ _ h l q' r' => ⟨.normal, env', H', ρ', rfl, h, l, q', r'⟩

theorem SemC.seq {x y : Code} (h : SemC P M x env H fun o e h => match o with | .normal => SemC P M y e h Q | _ => Q o e h) : SemC P M (.seq x y) env H Q :=
  fun W0 W ρ a hM hR q => wp_seq (wp_mono (h W0 W ρ a hM hR q) fun e a' W' ⟨o, env', H', ρ', h1, h2, l, q', r'⟩ => by
    subst h1
    cases o with
    | normal => exact wp_mono (h2 W0 W' ρ' a' hM r' q') fun _ _ _ ⟨o, e2, H2, ρ2, k1, k2, l2, k3⟩ => ⟨o, e2, H2, ρ2, k1, k2, l.trans l2, k3⟩
    | exit i => exact ⟨.exit i, env', H', ρ', rfl, h2, l, q', r'⟩
    | ret => exact ⟨.ret, env', H', ρ', rfl, h2, l, q', r'⟩)

theorem SemC.cond {c : Operand} {x y : Code} (b : Bool) (hc : opv env c = .bool b) (h : SemC P M (if b then x else y) env H Q) : SemC P M (.cond c x y) env H Q :=
  fun W0 W ρ a hM hR q => by
    have he := q.eval c
    rw [hc] at he
    simp only [VR] at he
    exact wp_cond he (h W0 W ρ a hM hR q)

theorem SemC.block {id : Nat} {c : Code} (h : SemC P M c env H fun o e h => match o with | .exit i => if i = id then Q .normal e h else Q (.exit i) e h | _ => Q o e h) : SemC P M (.block id c) env H Q :=
  fun W0 W ρ a hM hR q => wp_block (wp_mono (h W0 W ρ a hM hR q) fun e a' W' ⟨o, env', H', ρ', h1, h2, l, q', r'⟩ => by
    subst h1
    cases o with
    | normal => exact ⟨.normal, env', H', ρ', rfl, h2, l, q', r'⟩
    | exit i =>
      simp only [exitOf, Exit.inBlock]
      simp only at h2
      split at h2
      · rename_i hi; rw [if_pos hi]; exact ⟨.normal, env', H', ρ', rfl, h2, l, q', r'⟩
      · rename_i hi; rw [if_neg hi]; exact ⟨.exit i, env', H', ρ', rfl, h2, l, q', r'⟩
    | ret => exact ⟨.ret, env', H', ρ', rfl, h2, l, q', r'⟩)

/-- A loop: an invariant that bears the number of rounds still to come. -/
theorem SemC.loop {c : Code} (I : Nat → List AV → Heap → Prop) (n0 : Nat) (h0 : I n0 env H)
    (round : ∀ n e h, I n e h → SemC P M c e h fun o e' h' => match o with | .normal => ∃ m, m < n ∧ I m e' h' | _ => Q o e' h') : SemC P M (.loop c) env H Q :=
  fun W0 W ρ a hM hR q => by
    refine wp_loop_ghost (fun n a' W' => ∃ e h ρ', I n e h ∧ Le ρ ρ' ∧ RelEnv ρ' e a' ∧ Rel ρ' h W0 W') n0 ⟨env, H, ρ, h0, Le.refl ρ, q, hR⟩ ?_
    intro n a1 W1 ⟨e, h, ρ1, hI, l1, q1, r1⟩
    refine wp_mono (round n e h hI W0 W1 ρ1 a1 hM r1 q1) fun ex a' W' ⟨o, env', H', ρ', h1, h2, l, q', r'⟩ => ?_
    subst h1
    cases o with
    | normal =>
      obtain ⟨m, hm, hI'⟩ := h2
      exact ⟨m, hm, env', H', ρ', hI', l1.trans l, q', r'⟩
    | exit i => exact ⟨.exit i, env', H', ρ', rfl, h2, l1.trans l, q', r'⟩
    | ret => exact ⟨.ret, env', H', ρ', rfl, h2, l1.trans l, q', r'⟩

/-! ### Functions -/

theorem resA_ok (hT : TOK P T) {W0 W : World} {ρ : Asg} {a : Act} (hM : MOK M W0) (hR : Rel ρ H W0 W) (q : RelEnv ρ env a) : ∀ (rs : List ResultVar) (l : List AV), resA T M env H rs = some l →
    ∃ vs : List Value, VRs ρ l vs ∧ (rs.mapM (m := Sem) fun r => match r with | .tmp t => (pure (a.tmps.getD t undef) : Sem Value) | .cell c t => do loadVar t (← asAddr (a.tmps.getD c undef))).run P W = .ok vs W
  | [], l, h => by
    simp only [resA] at h; cases h
    exact ⟨[], by simp only [VRs], by simp [Sem.run_pure]⟩
  | .tmp t :: rs, l, h => by
    simp only [resA] at h
    cases hr : resA T M env H rs with
    | none => rw [hr] at h; cases h
    | some l' =>
      rw [hr] at h; cases h
      obtain ⟨vs, h1, h2⟩ := resA_ok hT hM hR q rs l' hr
      refine ⟨a.tmps.getD t undef :: vs, by simp only [VRs]; exact ⟨_, _, rfl, q.eval (.tmp t), h1⟩, ?_⟩
      rw [List.mapM_cons]
      simp only [Sem.run_bind, Sem.run_pure, Result.andThen_ok]
      rw [h2]
      rfl
  | .cell c t :: rs, l, h => by
    simp only [resA] at h
    split at h
    · rename_i v hv
      cases hr : resA T M env H rs with
      | none => rw [hr] at h; cases h
      | some l' =>
        rw [hr] at h; cases h
        obtain ⟨vs, h1, h2⟩ := resA_ok hT hM hR q rs l' hr
        obtain ⟨ad, cv, e1, e2, e3⟩ := load_ok hT hR hM hv (q.eval (.tmp c))
        have e1' : a.tmps.getD c undef = .pointer (some ad) := e1
        refine ⟨cv :: vs, by simp only [VRs]; exact ⟨_, _, rfl, e3, h1⟩, ?_⟩
        rw [List.mapM_cons]
        have e3' : (do loadVar t (← asAddr (a.tmps.getD c undef)) : Sem Value).run P W = .ok cv W := by
          rw [Sem.run_bind, e1']
          exact e2
        simp only [Sem.run_bind] at e3' ⊢
        rw [e3']
        simp only [Result.andThen_ok]
        rw [h2]
        rfl
    · cases h

theorem results_ok (hT : TOK P T) {W0 W : World} {ρ : Asg} {a : Act} (hM : MOK M W0) (hR : Rel ρ H W0 W) (q : RelEnv ρ env a) {fn : Func} {l : List AV} (h : resA T M env H fn.results.toList = some l) :
    ∃ cv, (results fn a.tmps).run P W = .ok cv W ∧ VR ρ (resultA l) cv := by
  obtain ⟨vs, h1, h2⟩ := resA_ok hT hM hR q _ l h
  unfold results
  rw [Sem.run_bind]
  have e : (fn.results.mapM (m := Sem) fun r => match r with | .tmp t => (pure (a.tmps.getD t undef) : Sem Value) | .cell c t => do loadVar t (← asAddr (a.tmps.getD c undef))).run P W = .ok vs.toArray W := by
    rw [Array.mapM_eq_mapM_toList, Sem.run_map, h2]
    rfl
  refine ⟨if h : vs.toArray.size = 1 then vs.toArray[0] else .tuple vs.toArray, ?_, ?_⟩
  · have e2 := e
    exact (congrArg (fun r => Result.andThen r _) e2).trans (by simp only [Result.andThen_ok, Sem.run_pure])
  · cases l with
    | nil =>
      simp only [VRs] at h1; subst h1
      simp only [resultA, VR]
      exact ⟨#[], by simp, by simp only [VRs]⟩
    | cons x l =>
      simp only [VRs] at h1
      obtain ⟨y, ys, rfl, hx, hl⟩ := h1
      cases l with
      | nil =>
        simp only [VRs] at hl; subst hl
        simpa [resultA] using hx
      | cons x2 l2 =>
        have hl2 := hl
        simp only [VRs] at hl2
        obtain ⟨y2, ys2, rfl, _, _⟩ := hl2
        simp only [resultA, VR]
        refine ⟨(y :: y2 :: ys2).toArray, by simp, ?_⟩
        simp only [VRs]
        exact ⟨y, y2 :: ys2, by simp, hx, hl⟩

theorem SemF.body (hS : Sound P T) {k : FuncId} {fn : Func} {c : Code} {args : List AV} {Q : AV → Heap → Prop} (hf : P.funcs[k]? = some fn) (hname : (fn.name == "runtime.NumGoroutine") = false) (hb : fn.body = some c)
    (h : SemC P M c (args ++ List.replicate (fn.ntmps - args.length) (.tup [])) H fun o e h => (match o with | .exit _ => False | _ => True) ∧ ∃ l, resA T M e h fn.results.toList = some l ∧ Q (resultA l) h) : SemF P M k args H Q := by
  intro W0 W ρ cargs hM hR ha
  refine .inl ⟨?_, calls_of_wp hf hb ?_⟩
  · have h1 : fn.name ≠ "runtime.NumGoroutine" := by simpa using hname
    simp [callFunc, hf, h1, hb]
  · have hl := ha.length
    simp only [Array.length_toList] at hl
    have q : RelEnv ρ (args ++ List.replicate (fn.ntmps - args.length) (.tup [])) { tmps := cargs ++ Array.replicate (fn.ntmps - cargs.size) undef, defers := [] } := by
      refine ⟨rfl, ?_⟩
      simp only [Array.toList_append, Array.toList_replicate, hl]
      exact ha.append (VRs.replicate (VR_undef ρ) _)
    refine wp_mono (h W0 W ρ _ hM hR q) fun e a' W' ⟨o, env', H', ρ', h1, ⟨h2, l, h3, h4⟩, le, q', r'⟩ => ?_
    subst h1
    obtain ⟨cv, k1, k2⟩ := results_ok hS.tok hM r' q' h3
    cases o with
    | normal => exact ⟨q'.defers, cv, k1, resultA l, H', ρ', h4, le, k2, r'⟩
    | ret => exact ⟨q'.defers, cv, k1, resultA l, H', ρ', h4, le, k2, r'⟩
    | exit => exact h2.elim

end
end Go.Proofs.YtnmignkabcblgaaDoor.E
