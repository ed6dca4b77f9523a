/- Part of a claim: any order of a drawn region. Nothing of a program stands here. -/
import Derived.Test.YtnmignkabcblgaaDoorE17
set_option linter.unusedSimpArgs false
set_option linter.unusedVariables false
namespace Go.Proofs.YtnmignkabcblgaaDoor.E
open Go Go.RowKit

theorem regB_back {T : Tab} {ops : Array Oper} (h : regB T ops = true) : ∀ (q : Nat) (o : Oper), ops[q]? = some o → ∀ e ∈ o.after, Region.binds .any e = true → e.on < q := by
  intro q o ho e he hb
  unfold regB at h
  simp only [Bool.and_eq_true, List.all_eq_true] at h
  have h1 := h.1 (o, q) (by
    rw [List.mem_zipIdx_iff_getElem?]; simpa using ho) e (by simpa using he)
  simpa [hb] using h1

theorem regB_pair {T : Tab} {ops : Array Oper} (h : regB T ops = true) {p q : Nat} {x y : Oper} (hx : ops[p]? = some x) (hy : ops[q]? = some y) (hpq : p < q) :
    ((masks ops.toList []).getD q 0).testBit p = true ∨ apartB T ops x y = true := by
  unfold regB at h
  simp only [Bool.and_eq_true, List.all_eq_true] at h
  have h1 := h.2 (y, q) (by rw [List.mem_zipIdx_iff_getElem?]; simpa using hy) (x, p) (by rw [List.mem_zipIdx_iff_getElem?]; simpa using hx)
  simp only [Bool.or_eq_true, Bool.not_eq_true', decide_eq_false_iff_not] at h1
  rcases h1 with (h1 | h1) | h1
  · exact absurd hpq h1
  · exact .inl h1
  · exact .inr h1

theorem count_set : ∀ (l : List Bool) (i : Nat), l[i]? = some false → (l.set i true).count false + 1 = l.count false
  | [], i, h => by simp at h
  | x :: l, 0, h => by simp at h; subst h; simp
  | x :: l, i + 1, h => by
    have := count_set l i (by simpa using h)
    simp only [List.set_cons_succ, List.count_cons]
    omega

theorem count_zero {l : List Bool} (h : l.count false = 0) (i : Nat) (b : Bool) (hi : l[i]? = some b) : b = true := by
  cases b with
  | true => rfl
  | false => exact absurd (List.mem_of_getElem? hi) (List.count_eq_zero.1 h)

theorem wpAny_ok {P : Program} {T : Tab} {M : Addr → Option AV} {ops : Array Oper} {W0 : World} {ρ0 : Asg} {env : List AV} {H : Heap} {Q : Exit → Act → World → Prop} {tr : Tr}
    (hT : TOK P T) (hM : MOK M W0) (hreg : regB T ops = true) (htr : tr.map (·.1) = ops.toList)
    (hs : ∀ (i : Nat) o v h, tr[i]? = some (o, v, h) → StepG P T M ops o (foldE (fun j => decide (j < i)) tr env) (foldH T (fun j => decide (j < i)) tr H) v h)
    (hQ : ∀ ρ' a' W', Le ρ0 ρ' → RelEnv ρ' (foldE (fun _ => true) tr env) a' → Rel ρ' (foldH T (fun _ => true) tr H) W0 W' → Q .normal a' W') :
    ∀ (fuel : Nat) (listed : Array Bool) (a : Act) (W : World) (ρ : Asg), listed.size = ops.size → Closed ops (fun j => listed.getD j false) → listed.toList.count false ≤ fuel → Le ρ0 ρ →
      RelEnv ρ (foldE (fun j => listed.getD j false) tr env) a → Rel ρ (foldH T (fun j => listed.getD j false) tr H) W0 W → wpAny P .any ops Q fuel listed a W := by
  have hlen : tr.length = ops.size := by
    have := congrArg List.length htr
    simpa using this
  have hget : ∀ (j : Nat) o v h, tr[j]? = some (o, v, h) → ops[j]? = some o := fun j o v h hj => by
    have h1 : (tr.map (·.1))[j]? = some o := by simp [hj]
    rw [htr] at h1
    simpa using h1
  have all : ∀ (listed : Array Bool), listed.size = ops.size → Region.ready .any ops listed = [] → ∀ j, j < ops.size → listed.getD j false = true := by
    intro listed hsz hr j
    induction j using Nat.strongRecOn with
    | _ j ih =>
      intro hj
      cases hc : listed.getD j false with
      | true => rfl
      | false =>
        exfalso
        have : j ∈ Region.ready .any ops listed := by
          rw [mem_ready]
          have ho : ops[j]? = some ops[j] := by simp [hj]
          refine ⟨?_, ops[j], ho, fun e he hb => ?_⟩
          · have h2 : j < listed.size := by omega
            simp [h2] at hc ⊢
            exact hc
          · have := regB_back hreg j _ ho e he hb
            exact ih e.on this (by omega)
        rw [hr] at this
        cases this
  have fin : ∀ (listed : Array Bool) (a : Act) (W : World) (ρ : Asg), listed.size = ops.size → Region.ready .any ops listed = [] → Le ρ0 ρ →
      RelEnv ρ (foldE (fun j => listed.getD j false) tr env) a → Rel ρ (foldH T (fun j => listed.getD j false) tr H) W0 W → Q .normal a W := by
    intro listed a W ρ hsz hr hl q hR
    have ha := all listed hsz hr
    refine hQ ρ a W hl ?_ ?_
    · rw [foldE_congr tr (fun _ => true) (fun j => listed.getD j false) env fun j hj => (ha j (by omega)).symm]; exact q
    · rw [foldH_congr tr (fun _ => true) (fun j => listed.getD j false) H fun j o v h hj _ => (ha j (by
        have := (List.getElem?_eq_some_iff.1 hj).1; omega)).symm]; exact hR
  intro fuel
  induction fuel with
  | zero =>
    intro listed a W ρ hsz hcl hcnt hl q hR
    have hr : Region.ready .any ops listed = [] := by
      rw [List.eq_nil_iff_forall_not_mem]
      intro i hi
      obtain ⟨h1, o, ho, _⟩ := mem_ready.1 hi
      have hlt : i < listed.size := by rw [hsz]; exact (Array.getElem?_eq_some_iff.1 ho).1
      have := count_zero (l := listed.toList) (by omega) i listed[i] (by simp [hlt])
      simp [hlt] at h1
      rw [h1] at this; cases this
    exact ⟨hr, fin listed a W ρ hsz hr hl q hR⟩
  | succ fuel ih =>
    intro listed a W ρ hsz hcl hcnt hl q hR
    refine ⟨fun hr => fin listed a W ρ hsz hr hl q hR, fun i hi => ?_⟩
    obtain ⟨h1, o, ho, hedge⟩ := mem_ready.1 hi
    have hlt : i < listed.size := by rw [hsz]; exact (Array.getElem?_eq_some_iff.1 ho).1
    have hLi : listed.getD i false = false := by simp [hlt] at h1 ⊢; exact h1
    obtain ⟨o', v, h, hti⟩ : ∃ o' v h, tr[i]? = some (o', v, h) := ⟨tr[i].1, tr[i].2.1, tr[i].2.2, by simp [show i < tr.length by omega]⟩
    have ho' := hget i o' v h hti
    rw [ho] at ho'
    cases ho'
    have hback := regB_back hreg
    -- what lies ahead of i or behind it
    have ahead : ∀ (j : Nat) oj, ops[j]? = some oj → j < i → listed.getD j false = true ∨ apartB T ops oj o = true := fun j oj hj hji => by
      rcases regB_pair hreg hj ho hji with h | h
      · exact .inl (closed_mask (L := fun j => listed.getD j false) hcl hback (i + 1) i (by omega) o j ho hedge h)
      · exact .inr h
    have behind : ∀ (j : Nat) oj, ops[j]? = some oj → i < j → listed.getD j false = true → apartB T ops o oj = true := fun j oj hj hij hl => by
      rcases regB_pair hreg ho hj hij with h | h
      · have := closed_mask (L := fun j => listed.getD j false) hcl hback (j + 1) j (by omega) oj i hj (hcl j oj hj hl) h
        simp only [hLi] at this; cases this
      · exact h
    have st := hs i o v h hti
    have st1 := st.congr (env' := foldE (fun j => listed.getD j false) tr env) fun t ht => by
      refine foldE_get tr _ _ env env (fun j oj vj hj hjt hd => ?_) rfl
      have hoj := hget j oj vj hj hjt
      rcases Nat.lt_trichotomy j i with hji | rfl | hij
      · rcases ahead j oj hoj hji with h | h
        · simp only [h, hji, decide_true]
        · exact absurd ht ((apart_spec h).1 t hd).1
      · simp only [hLi, Nat.lt_irrefl, decide_false]
      · cases hlj : listed.getD j false with
        | false => simp; omega
        | true => exact absurd ht ((apart_spec (behind j oj hoj hij hlj)).2.1 t hd)
    have hset : (fun j => (listed.setIfInBounds i true).getD j false) = fun j => (fun j => listed.getD j false) j || j == i := by
      funext j
      by_cases hji : j = i
      · subst hji; simp [hlt]
      · rw [getD_set_ne false (Ne.symm hji)]; simp [hji]
    -- the heap
    have hheap : ∃ h2, StepG P T M ops o (foldE (fun j => listed.getD j false) tr env) (foldH T (fun j => listed.getD j false) tr H) v h2 ∧ h2 = foldH T (fun j => (fun j => listed.getD j false) j || j == i) tr H := by
      have same : heapKind T o.op ≠ 2 → foldH T (fun j => listed.getD j false) tr H = foldH T (fun j => (fun j => listed.getD j false) j || j == i) tr H := fun hk =>
        foldH_congr tr _ _ H fun j oj vj hj hjt hkj => by
          have : j ≠ i := fun e => by subst e; rw [hti] at hjt; cases hjt; exact hk hkj
          simp [this]
      by_cases hk0 : heapKind T o.op = 0
      · exact ⟨_, st1.heap hk0, same (by omega)⟩
      · have he : foldH T (fun j => decide (j < i)) tr H = foldH T (fun j => listed.getD j false) tr H := by
          refine foldH_congr tr _ _ H fun j oj vj hj hjt hkj => ?_
          have hoj := hget j oj vj hj hjt
          rcases Nat.lt_trichotomy j i with hji | rfl | hij
          · rcases ahead j oj hoj hji with h | h
            · simp only [h, hji, decide_true]
            · exact absurd ((apart_spec h).2.2.1 hkj) hk0
          · simp only [hLi, Nat.lt_irrefl, decide_false]
          · cases hlj : listed.getD j false with
            | false => simp; omega
            | true => exact absurd ((apart_spec (behind j oj hoj hij hlj)).2.2.2 hkj) hk0
        rw [he] at st1
        refine ⟨h, st1, ?_⟩
        by_cases hk2 : heapKind T o.op = 2
        · refine (foldH_add tr i (fun j => listed.getD j false) H hti hk2 fun j oj vj hj hij hjt hkj => ?_).symm
          have hoj := hget j oj vj hj hjt
          cases hlj : listed.getD j false with
          | false => rfl
          | true => exact absurd ((apart_spec (behind j oj hoj hij hlj)).2.2.2 hkj) hk0
        · rw [← same hk2]; exact st1.kept hk2
    obtain ⟨h2, st2, hh2⟩ := hheap
    refine st2.wpOp hT hM ho q hR fun cv W' ρ' l hv hr => ?_
    refine ih (listed.setIfInBounds i true) _ W' ρ' (by simp [hsz]) ?_ ?_ (hl.trans l) ?_ ?_
    · rw [hset]
      intro p op hp hlp e he hb
      simp only [Bool.or_eq_true, beq_iff_eq] at hlp ⊢
      rcases hlp with hlp | rfl
      · exact .inl (hcl p op hp hlp e he hb)
      · rw [ho] at hp; cases hp
        exact .inl (hedge e he hb)
    · have := count_set listed.toList i (by simp [hlt] at h1 ⊢; exact h1)
      rw [Array.toList_setIfInBounds]
      omega
    · rw [hset, foldE_add tr i (fun j => listed.getD j false) env hti hLi fun j oj vj hj hij hjt hlj x hx hd => ?_]
      · exact (q.mono l).put _ hv
      · have hoj := hget j oj vj hj hjt
        exact ((apart_spec (behind j oj hoj hij hlj)).1 x hd).2 hx
    · rw [hset, ← hh2]; exact hr

/-- A DRAWN REGION. -/
theorem wp_region_drawn {P : Program} {T : Tab} {M : Addr → Option AV} {ops : Array Oper} {id : Nat} {W0 W : World} {ρ : Asg} {env env' : List AV} {H H' : Heap} {a : Act} {Q : Exit → Act → World → Prop}
    (hm : P.follows .mixedOrders = true) (hT : TOK P T) (hM : MOK M W0) (hreg : regB T ops = true) (hrun : RunD P T M ops ops.toList env H env' H') (q : RelEnv ρ env a) (hR : Rel ρ H W0 W)
    (hQ : ∀ ρ' a' W', Le ρ ρ' → RelEnv ρ' env' a' → Rel ρ' H' W0 W' → Q .normal a' W') : (Code.region id ops true).wp P Q a W := by
  obtain ⟨tr, e1, e2, e3, e4⟩ := hrun.trace
  refine wp_region_any hm ?_
  have h0 : (fun j => (Array.replicate ops.size false).getD j false) = fun _ => false := by
    funext j
    simp [Array.getElem?_replicate]
    split <;> rfl
  refine wpAny_ok (ρ0 := ρ) (env := env) (H := H) hT hM hreg e1 e2 (fun ρ' a' W' l q' r' => hQ ρ' a' W' l (by rw [e3]; exact q') (by rw [e4]; exact r')) ops.size _ a _ ρ (by simp) ?_ ?_ (Le.refl ρ) ?_ ?_
  · rw [h0]; intro _ _ _ h; cases h
  · simp
  · rw [h0, foldE_none _ _ _ fun _ _ => rfl]; exact q
  · rw [h0, foldH_none _ _ _ fun _ _ _ _ _ _ => rfl]; exact hR.drawn _

/-! ### The text's order -/

def RunQ (P : Program) (T : Tab) (M : Addr → Option AV) (ops : Array Oper) : List Oper → List AV → Heap → (List AV → Heap → Prop) → Prop
  | [], env, H, Q => Q env H
  | o :: os, env, H, Q =>
    (wantedA ops env o = some true ∧ StepQ P T M o env H fun v H' => RunQ P T M ops os (putA env o.dst v) H' Q) ∨
    (wantedA ops env o = some false ∧ RunQ P T M ops os (putA env o.dst (.tup [])) H Q)

theorem RunQ.wp {P : Program} {T : Tab} {M : Addr → Option AV} {ops : Array Oper} {W0 : World} {Q : List AV → Heap → Prop} {QQ : Exit → Act → World → Prop} {ρ0 : Asg} (hT : TOK P T) (hM : MOK M W0)
    (hQ : ∀ env' H' ρ' a' W', Q env' H' → Le ρ0 ρ' → RelEnv ρ' env' a' → Rel ρ' H' W0 W' → QQ .normal a' W') :
    ∀ (os : List Oper) (env : List AV) (H : Heap) (a : Act) (W : World) (ρ : Asg), Le ρ0 ρ → RunQ P T M ops os env H Q → RelEnv ρ env a → Rel ρ H W0 W → wpList P ops QQ os a W
  | [], env, H, a, W, ρ, l, h, q, hR => hQ env H ρ a W h l q hR
  | o :: os, env, H, a, W, ρ, l, h, q, hR => by
    unfold wpList
    rcases h with ⟨hw, h⟩ | ⟨hw, h⟩
    · rw [wanted_ok q hw]
      simp only [if_true]
      exact .inl (h.wp hT hM q hR fun v H' cv W' ρ' hr l' hv hR' => RunQ.wp hT hM hQ os _ H' _ W' ρ' (l.trans l') hr ((q.mono l').put _ hv) hR')
    · rw [wanted_ok q hw]
      simp only [Bool.false_eq_true, if_false]
      exact RunQ.wp hT hM hQ os _ H _ W ρ l h (q.put _ (VR_undef ρ)) hR

theorem wp_region_text {P : Program} {T : Tab} {M : Addr → Option AV} {ops : Array Oper} {id : Nat} {W0 W : World} {ρ : Asg} {env : List AV} {H : Heap} {a : Act} {Q : List AV → Heap → Prop} {QQ : Exit → Act → World → Prop}
    (hT : TOK P T) (hM : MOK M W0) (hrun : RunQ P T M ops ops.toList env H Q) (q : RelEnv ρ env a) (hR : Rel ρ H W0 W)
    (hQ : ∀ env' H' ρ' a' W', Q env' H' → Le ρ ρ' → RelEnv ρ' env' a' → Rel ρ' H' W0 W' → QQ .normal a' W') : (Code.region id ops false).wp P QQ a W :=
  wp_region_list (RunQ.wp hT hM hQ ops.toList env H a W ρ (Le.refl ρ) hrun q hR)

end Go.Proofs.YtnmignkabcblgaaDoor.E
