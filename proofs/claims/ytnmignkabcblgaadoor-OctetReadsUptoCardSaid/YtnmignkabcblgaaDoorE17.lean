/- Part of a claim: regions against the machine. Nothing of a program stands here. -/
import Derived.Test.YtnmignkabcblgaaDoorE16
import Derived.Tactics
set_option linter.unusedSimpArgs false
set_option linter.unusedVariables false
namespace Go.Proofs.YtnmignkabcblgaaDoor.E
open Go Go.RowKit

theorem wanted_ok {ops : Array Oper} {o : Oper} {env : List AV} {a : Act} {ρ : Asg} {b : Bool} (q : RelEnv ρ env a) (h : wantedA ops env o = some b) : Region.wanted o (yielded ops a.tmps) = b := by
  unfold wantedA at h
  unfold Region.wanted
  split at h
  · rename_i hg; cases h; rw [hg]
  · rename_i j want hg
    rw [hg]
    simp only
    unfold yielded
    split at h
    · rename_i hd; cases h; rw [hd]; rfl
    · rename_i t hd
      rw [hd]
      simp only [Option.bind_some]
      have hl := q.tmps.length
      simp only [Array.length_toList] at hl
      split at h
      · rename_i he
        cases h
        have : a.tmps[t]? = none := by
          rw [Array.getElem?_eq_none]
          have := List.getElem?_eq_none_iff.1 he
          omega
        rw [this]; rfl
      · rename_i x he
        cases h
        obtain ⟨cv, h1, h2⟩ := q.tmps.get he
        rw [Array.getElem?_toList] at h1
        simp only [VR] at h2
        rw [h1, h2]
        cases x <;> cases want <;> rfl
      · rename_i x he
        cases h
        obtain ⟨cv, h1, h2⟩ := q.tmps.get he
        rw [Array.getElem?_toList] at h1
        simp only [VR] at h2
        obtain ⟨vs, h2, _⟩ := h2
        rw [h1, h2]; rfl
      · cases h

/-- One operation, whatever it may come to. -/
def StepQ (P : Program) (T : Tab) (M : Addr → Option AV) (o : Oper) (env : List AV) (H : Heap) (Q : AV → Heap → Prop) : Prop :=
  match callOf o.op with
  | some (f, args) => ∃ k, opv env f = .func k ∧ SemF P M k (args.map (opv env)) H Q
  | none => ∃ v H', evOp T M o.op (opv env) H = some (v, H') ∧ Q v H'

theorem StepD.toQ {P : Program} {T : Tab} {M : Addr → Option AV} {o : Oper} {env : List AV} {H H' : Heap} {v : AV} (h : StepD P T M o env H v H') : StepQ P T M o env H fun v' H'' => v' = v ∧ H'' = H' := by
  unfold StepD at h
  unfold StepQ
  cases hc : callOf o.op with
  | some fa => simp only [hc] at h ⊢; exact h
  | none => simp only [hc] at h ⊢; exact ⟨v, H', h, rfl, rfl⟩

theorem StepQ.wp {P : Program} {T : Tab} {M : Addr → Option AV} {o : Oper} {env : List AV} {H : Heap} {Q : AV → Heap → Prop} {a : Act} {ρ : Asg} {W0 W : World} {QQ : Exit → Act → World → Prop} {K : Act → World → Prop}
    (hT : TOK P T) (hM : MOK M W0) (h : StepQ P T M o env H Q) (q : RelEnv ρ env a) (hR : Rel ρ H W0 W)
    (hK : ∀ v H' cv W' ρ', Q v H' → Le ρ ρ' → VR ρ' v cv → Rel ρ' H' W0 W' → K (a.put o.dst cv) W') : o.wp P a W K QQ := by
  unfold StepQ at h
  unfold Oper.wp
  split at h
  · rename_i f args hc
    obtain ⟨k, hk, hs⟩ := h
    have hf := q.eval f
    rw [hk] at hf
    simp only [VR] at hf
    unfold callOf at hc
    split at hc
    · rename_i f' args' ats ho
      simp only [Option.some.injEq, Prod.mk.injEq] at hc
      obtain ⟨rfl, rfl⟩ := hc
      have e : (execOp a.eval o).run P W = (callFunc k (args'.map a.eval)).run P W := by
        unfold execOp
        simp only [ho, resolve, hf, Deferred.ofValue, Sem.run_bind, Sem.run_pure, invoke, Array.empty_append, Result.andThen, Array.append_empty]
      rw [e]
      have ha : VRs ρ (args'.toList.map (opv env)) (args'.map a.eval).toList := by
        rw [Array.toList_map]
        exact args_rel q _
      rcases hs W0 W ρ (args'.map a.eval) hM hR ha with ⟨h1, h2⟩ | ⟨cv, W', h1, v, H', ρ', hq, l, hv, hr⟩
      · rw [h1]
        simp only [Oper.upon]
        refine h2.mono fun en w' he => ?_
        cases en with
        | returned cv => obtain ⟨v, H', ρ', hq, l, hv, hr⟩ := he; exact hK v H' cv w' ρ' hq l hv hr
        | panicked => exact he.elim
        | outgrown => exact he.elim
      · rw [h1]
        simp only [Oper.upon]
        exact hK v H' cv W' ρ' hq l hv hr
    · cases hc
  · obtain ⟨v, H', he, hq⟩ := h
    obtain ⟨cv, W', ρ', h1, l, hv, hr⟩ := evOp_ok hT hR hM q he
    rcases h1 with h1 | ⟨h1, rfl⟩
    · rw [h1]; simp only [Oper.upon]; exact hK v H' cv W' ρ' hq l hv hr
    · rw [h1]; simp only [Oper.upon]; exact hK v H' _ W' ρ' hq l hv hr

theorem VR_undef (ρ : Asg) : VR ρ (.tup []) undef := by
  simp only [VR]
  exact ⟨#[], rfl, by simp only [VRs]⟩

theorem StepG.wpOp {P : Program} {T : Tab} {M : Addr → Option AV} {ops : Array Oper} {o : Oper} {i : Nat} {env : List AV} {H H1 : Heap} {v : AV} {a : Act} {ρ : Asg} {W0 W : World} {QQ : Exit → Act → World → Prop} {K : Act → World → Prop}
    (hT : TOK P T) (hM : MOK M W0) (ho : ops[i]? = some o) (h : StepG P T M ops o env H v H1) (q : RelEnv ρ env a) (hR : Rel ρ H W0 W)
    (hK : ∀ cv W' ρ', Le ρ ρ' → VR ρ' v cv → Rel ρ' H1 W0 W' → K (a.put o.dst cv) W') : wpOp P ops QQ i K a W := by
  unfold Go.wpOp
  rw [ho]
  dsimp only
  rcases h with ⟨hw, h⟩ | ⟨hw, rfl, rfl⟩
  · rw [wanted_ok q hw]
    simp only [if_true]
    exact .inl (h.toQ.wp hT hM q hR fun v' H' cv W' ρ' ⟨e1, e2⟩ l hv hr => by subst e1 e2; exact hK cv W' ρ' l hv hr)
  · rw [wanted_ok q hw]
    simp only [Bool.false_eq_true, if_false]
    exact hK undef W ρ (Le.refl ρ) (VR_undef ρ) hR

/-! ### Any order -/

theorem apart_spec {T : Tab} {ops : Array Oper} {x y : Oper} (h : apartB T ops x y = true) :
    (∀ d, x.dst = some d → d ∉ looks ops y ∧ y.dst ≠ some d) ∧ (∀ d, y.dst = some d → d ∉ looks ops x) ∧ (heapKind T x.op = 2 → heapKind T y.op = 0) ∧ (heapKind T y.op = 2 → heapKind T x.op = 0) := by
  unfold apartB at h
  simp only [Bool.and_eq_true, Bool.not_eq_true', Bool.and_eq_false_iff, bne_eq_false_iff_eq, beq_eq_false_iff_ne] at h
  obtain ⟨⟨⟨h1, h2⟩, h3⟩, h4⟩ := h
  refine ⟨fun d hd => ?_, fun d hd => ?_, fun hk => ?_, fun hk => ?_⟩
  · rw [hd] at h1; simp at h1; exact ⟨h1.1, h1.2⟩
  · rw [hd] at h2; simp at h2; exact h2
  · rcases h3 with h3 | h3
    · exact absurd hk h3
    · exact h3
  · rcases h4 with h4 | h4
    · exact absurd hk h4
    · exact h4

theorem wantedA_congr {ops : Array Oper} {o : Oper} {env env' : List AV} (h : ∀ t ∈ guardTmp ops o, env[t]? = env'[t]?) : wantedA ops env o = wantedA ops env' o := by
  unfold wantedA
  unfold guardTmp at h
  split
  · rfl
  · rename_i j want hg
    rw [hg] at h
    simp only at h
    cases hd : (ops[j]?).bind (·.dst) with
    | none => rfl
    | some t => simp only; rw [h t (by simp [hd])]

theorem opv_congr {env env' : List AV} {x : Operand} (h : ∀ t, tmpOf x = some t → env[t]? = env'[t]?) : opv env x = opv env' x := by
  cases x with
  | tmp t => simp only [opv]; rw [List.getD_eq_getElem?_getD, List.getD_eq_getElem?_getD, h t rfl]
  | _ => rfl

theorem StepG.congr {P : Program} {T : Tab} {M : Addr → Option AV} {ops : Array Oper} {o : Oper} {env env' : List AV} {H H1 : Heap} {v : AV} (h : StepG P T M ops o env H v H1) (he : ∀ t ∈ looks ops o, env[t]? = env'[t]?) : StepG P T M ops o env' H v H1 := by
  have hw : wantedA ops env o = wantedA ops env' o := wantedA_congr fun t ht => he t (List.mem_append_right _ ht)
  have hx : ∀ x ∈ o.op.operands.toList, opv env x = opv env' x := fun x hx => opv_congr fun t ht => he t (List.mem_append_left _ (List.mem_filterMap.2 ⟨x, hx, ht⟩))
  unfold StepG at h ⊢
  rw [← hw]
  rcases h with ⟨h1, h2⟩ | h
  · refine .inl ⟨h1, ?_⟩
    unfold StepD at h2 ⊢
    cases hc : callOf o.op with
    | some fa =>
      obtain ⟨f, args⟩ := fa
      simp only [hc] at h2 ⊢
      unfold callOf at hc
      split at hc
      · rename_i f' args' ats ho
        simp only [Option.some.injEq, Prod.mk.injEq] at hc
        obtain ⟨rfl, rfl⟩ := hc
        have e1 : opv env f' = opv env' f' := hx f' (by rw [ho]; simp [Op.operands, Call.operands])
        have e2 : args'.toList.map (opv env) = args'.toList.map (opv env') := List.map_congr_left fun x hm => hx x (by rw [ho]; simp [Op.operands, Call.operands]; exact .inr (by simpa using hm))
        rw [← e1, ← e2]; exact h2
      · cases hc
    | none =>
      simp only [hc] at h2 ⊢
      rw [← evOp_congr hx]; exact h2
  · exact .inr h

theorem StepG.heap {P : Program} {T : Tab} {M : Addr → Option AV} {ops : Array Oper} {o : Oper} {env : List AV} {H H1 H2 : Heap} {v : AV} (h : StepG P T M ops o env H v H1) (hk : heapKind T o.op = 0) : StepG P T M ops o env H2 v H2 := by
  rcases h with ⟨h1, h⟩ | ⟨h1, rfl, rfl⟩
  · refine .inl ⟨h1, ?_⟩
    unfold StepD at h ⊢
    split at h
    · rename_i f args hc
      exfalso
      unfold callOf at hc
      split at hc
      · rename_i hq; rw [hq] at hk; cases hk
      · cases hc
    · exact (evOp_pure hk h).2 H2
  · exact .inr ⟨h1, rfl, rfl⟩

end Go.Proofs.YtnmignkabcblgaaDoor.E
