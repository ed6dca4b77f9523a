/- Part of a claim: a drawn region with one allocation that may stand ahead of what is listed ahead of it. Nothing of a program stands here. -/
import Derived.Test.YtecfmnldanahiaaDoorEE
set_option linter.unusedSimpArgs false
set_option linter.unusedVariables false
namespace Go.Proofs.YtecfmnldanahiaaDoor.E
open Go Go.RowKit
variable {qt : FuncId → Bool}

/-- Neither looks at what the other makes. -/
def apartD (ops : Array Oper) (x y : Oper) : Bool :=
  (match x.dst with | some d => !(looks ops y).contains d && y.dst != some d | none => true) &&
  (match y.dst with | some d => !(looks ops x).contains d | none => true)
theorem apartD_spec {ops : Array Oper} {x y : Oper} (h : apartD ops x y = true) : (∀ d, x.dst = some d → d ∉ looks ops y ∧ y.dst ≠ some d) ∧ (∀ d, y.dst = some d → d ∉ looks ops x) := by
  unfold apartD at h
  simp only [Bool.and_eq_true] at h
  obtain ⟨h1, h2⟩ := h
  refine ⟨fun d hd => ?_, fun d hd => ?_⟩
  · rw [hd] at h1; simp at h1; exact ⟨h1.1, h1.2⟩
  · rw [hd] at h2; simp at h2; exact h2
theorem apartB_D {T : Tab} {ops : Array Oper} {x y : Oper} (h : apartB qt T ops x y = true) : apartD ops x y = true := by
  unfold apartB at h
  unfold apartD
  simp only [Bool.and_eq_true] at h ⊢
  exact h.1.1

/-- As regB; the operation ia may stand ahead of any listed before it. -/
def regA (qt : FuncId → Bool) (T : Tab) (ops : Array Oper) (ia : Nat) : Bool :=
  (ops.toList.zipIdx.all fun p => p.1.after.toList.all fun e => !Region.binds .any e || decide (e.on < p.2)) &&
  (ops.toList.zipIdx.all fun q => ops.toList.zipIdx.all fun p => !decide (p.2 < q.2) || ((masks ops.toList []).getD q.2 0).testBit p.2 || apartB qt T ops p.1 q.1 || (q.2 == ia && apartD ops p.1 q.1))

theorem regA_back {T : Tab} {ops : Array Oper} {ia : Nat} (h : regA qt T ops ia = true) : ∀ (q : Nat) (o : Oper), ops[q]? = some o → ∀ e ∈ o.after, Region.binds .any e = true → e.on < q := by
  intro q o ho e he hb
  unfold regA at h
  simp only [Bool.and_eq_true, List.all_eq_true] at h
  have h1 := h.1 (o, q) (by
    rw [List.mem_zipIdx_iff_getElem?]; simpa using ho) e (by simpa using he)
  simpa [hb] using h1

theorem regA_pair {T : Tab} {ops : Array Oper} {ia : Nat} (h : regA qt T ops ia = true) {p q : Nat} {x y : Oper} (hx : ops[p]? = some x) (hy : ops[q]? = some y) (hpq : p < q) :
    ((masks ops.toList []).getD q 0).testBit p = true ∨ (apartD ops x y = true ∧ (apartB qt T ops x y = true ∨ q = ia)) := by
  unfold regA at h
  simp only [Bool.and_eq_true, List.all_eq_true] at h
  have h1 := h.2 (y, q) (by rw [List.mem_zipIdx_iff_getElem?]; simpa using hy) (x, p) (by rw [List.mem_zipIdx_iff_getElem?]; simpa using hx)
  simp only [Bool.or_eq_true, Bool.not_eq_true', decide_eq_false_iff_not, Bool.and_eq_true, beq_iff_eq] at h1
  rcases h1 with ((h1 | h1) | h1) | h1
  · exact absurd hpq h1
  · exact .inl h1
  · exact .inr ⟨apartB_D h1, .inl h1⟩
  · exact .inr ⟨h1.2, .inr h1.1⟩

theorem wpAny_okA {P : Program} {T : Tab} {M : Addr → Option AV} {ops : Array Oper} {W0 : World} {ρ0 : Asg} {env : List AV} {H : Heap} {Q : Exit → Act → World → Prop} {tr : Tr}
    (hT : TOK P T) (hM : MOK M W0) {ia : Nat} {B : HB} {oa : Oper} {va : AV} (hreg : regA qt T ops ia = true) (htr : tr.map (·.1) = ops.toList)
    (hs : ∀ (i : Nat) o v h, tr[i]? = some (o, v, h) → StepG qt P T M ops o (foldE (fun j => decide (j < i)) tr env) (foldH qt T (fun j => decide (j < i)) tr H) v h)
    (hg : ∀ (i : Nat) o v h, tr[i]? = some (o, v, h) → i < ia → StepG qt P T M ops o (foldE (fun j => decide (j < i)) tr env) (H ++ [B]) v (H ++ [B]))
    (hpre : ∀ (i : Nat) o v h, tr[i]? = some (o, v, h) → i < ia → heapKind qt T o.op ≠ 2)
    (hal : tr[ia]? = some (oa, va, H ++ [B])) (hka : heapKind qt T oa.op = 2)
    (hQ : ∀ ρ' a' W', Le ρ0 ρ' → RelEnv ρ' (foldE (fun _ => true) tr env) a' → Rel ρ' (foldH qt T (fun _ => true) tr H) W0 W' → Q .normal a' W') :
    ∀ (fuel : Nat) (listed : Array Bool) (a : Act) (W : World) (ρ : Asg), listed.size = ops.size → Closed ops (fun j => listed.getD j false) → listed.toList.count false ≤ fuel → Le ρ0 ρ →
      RelEnv ρ (foldE (fun j => listed.getD j false) tr env) a → Rel ρ (foldH qt T (fun j => listed.getD j false) tr H) W0 W → wpAny P .any ops Q fuel listed a W := by
  have hlen : tr.length = ops.size := by
    have := congrArg List.length htr
    simpa using this
  have hget : ∀ (j : Nat) o v h, tr[j]? = some (o, v, h) → ops[j]? = some o := fun j o v h hj => by
    have h1 : (tr.map (·.1))[j]? = some o := by simp [hj]
    rw [htr] at h1
    simpa using h1
  have all : ∀ (listed : Array Bool), listed.size = ops.size → Region.ready .any ops listed = [] → ∀ j, j < ops.size → listed.getD j false = true := by
    intro listed hsz hr j
    induction j using Nat.strongRecOn with
    | _ j ih =>
      intro hj
      cases hc : listed.getD j false with
      | true => rfl
      | false =>
        exfalso
        have : j ∈ Region.ready .any ops listed := by
          rw [mem_ready]
          have ho : ops[j]? = some ops[j] := by simp [hj]
          refine ⟨?_, ops[j], ho, fun e he hb => ?_⟩
          · have h2 : j < listed.size := by omega
            simp [h2] at hc ⊢
            exact hc
          · have := regA_back hreg j _ ho e he hb
            exact ih e.on this (by omega)
        rw [hr] at this
        cases this
  have fin : ∀ (listed : Array Bool) (a : Act) (W : World) (ρ : Asg), listed.size = ops.size → Region.ready .any ops listed = [] → Le ρ0 ρ →
      RelEnv ρ (foldE (fun j => listed.getD j false) tr env) a → Rel ρ (foldH qt T (fun j => listed.getD j false) tr H) W0 W → Q .normal a W := by
    intro listed a W ρ hsz hr hl q hR
    have ha := all listed hsz hr
    refine hQ ρ a W hl ?_ ?_
    · rw [foldE_congr tr (fun _ => true) (fun j => listed.getD j false) env fun j hj => (ha j (by omega)).symm]; exact q
    · rw [foldH_congr tr (fun _ => true) (fun j => listed.getD j false) H fun j o v h hj _ => (ha j (by
        have := (List.getElem?_eq_some_iff.1 hj).1; omega)).symm]; exact hR
  intro fuel
  induction fuel with
  | zero =>
    intro listed a W ρ hsz hcl hcnt hl q hR
    have hr : Region.ready .any ops listed = [] := by
      rw [List.eq_nil_iff_forall_not_mem]
      intro i hi
      obtain ⟨h1, o, ho, _⟩ := mem_ready.1 hi
      have hlt : i < listed.size := by rw [hsz]; exact (Array.getElem?_eq_some_iff.1 ho).1
      have := count_zero (l := listed.toList) (by omega) i listed[i] (by simp [hlt])
      simp [hlt] at h1
      rw [h1] at this; cases this
    exact ⟨hr, fin listed a W ρ hsz hr hl q hR⟩
  | succ fuel ih =>
    intro listed a W ρ hsz hcl hcnt hl q hR
    refine ⟨fun hr => fin listed a W ρ hsz hr hl q hR, fun i hi => ?_⟩
    obtain ⟨h1, o, ho, hedge⟩ := mem_ready.1 hi
    have hlt : i < listed.size := by rw [hsz]; exact (Array.getElem?_eq_some_iff.1 ho).1
    have hLi : listed.getD i false = false := by simp [hlt] at h1 ⊢; exact h1
    obtain ⟨o', v, h, hti⟩ : ∃ o' v h, tr[i]? = some (o', v, h) := ⟨tr[i].1, tr[i].2.1, tr[i].2.2, by simp [show i < tr.length by omega]⟩
    have ho' := hget i o' v h hti
    rw [ho] at ho'
    cases ho'
    have hback := regA_back hreg
    -- what lies ahead of i or behind it
    have ahead : ∀ (j : Nat) oj, ops[j]? = some oj → j < i → listed.getD j false = true ∨ (apartD ops oj o = true ∧ (apartB qt T ops oj o = true ∨ i = ia)) := fun j oj hj hji => by
      rcases regA_pair hreg hj ho hji with h | h
      · exact .inl (closed_mask (L := fun j => listed.getD j false) hcl hback (i + 1) i (by omega) o j ho hedge h)
      · exact .inr h
    have behind : ∀ (j : Nat) oj, ops[j]? = some oj → i < j → listed.getD j false = true → (apartD ops o oj = true ∧ (apartB qt T ops o oj = true ∨ j = ia)) := fun j oj hj hij hl => by
      rcases regA_pair hreg ho hj hij with h | h
      · have := closed_mask (L := fun j => listed.getD j false) hcl hback (j + 1) j (by omega) oj i hj (hcl j oj hj hl) h
        simp only [hLi] at this; cases this
      · exact h
    have st := hs i o v h hti
    have st1 := st.congr (env' := foldE (fun j => listed.getD j false) tr env) fun t ht => by
      refine foldE_get tr _ _ env env (fun j oj vj hj hjt hd => ?_) rfl
      have hoj := hget j oj vj hj hjt
      rcases Nat.lt_trichotomy j i with hji | rfl | hij
      · rcases ahead j oj hoj hji with h | h
        · simp only [h, hji, decide_true]
        · exact absurd ht ((apartD_spec h.1).1 t hd).1
      · simp only [hLi, Nat.lt_irrefl, decide_false]
      · cases hlj : listed.getD j false with
        | false => simp; omega
        | true => exact absurd ht ((apartD_spec (behind j oj hoj hij hlj).1).2 t hd)
    have hset : (fun j => (listed.setIfInBounds i true).getD j false) = fun j => (fun j => listed.getD j false) j || j == i := by
      funext j
      by_cases hji : j = i
      · subst hji; simp [hlt]
      · rw [getD_set_ne false (Ne.symm hji)]; simp [hji]
    -- the heap
    have hheap : ∃ h2, StepG qt P T M ops o (foldE (fun j => listed.getD j false) tr env) (foldH qt T (fun j => listed.getD j false) tr H) v h2 ∧ h2 = foldH qt T (fun j => (fun j => listed.getD j false) j || j == i) tr H := by
      have same : heapKind qt T o.op ≠ 2 → foldH qt T (fun j => listed.getD j false) tr H = foldH qt T (fun j => (fun j => listed.getD j false) j || j == i) tr H := fun hk =>
        foldH_congr tr _ _ H fun j oj vj hj hjt hkj => by
          have : j ≠ i := fun e => by subst e; rw [hti] at hjt; cases hjt; exact hk hkj
          simp [this]
      by_cases hk0 : heapKind qt T o.op = 0
      · exact ⟨_, st1.heap hk0, same (by omega)⟩
      · by_cases hex : i < ia ∧ listed.getD ia false = true
        · obtain ⟨hia, hla⟩ := hex
          have hk2 := hpre i o v h hti hia
          have hG : foldH qt T (fun j => listed.getD j false) tr H = H ++ [B] := by
            have e1 : foldH qt T (fun j => listed.getD j false) tr H = foldH qt T (fun j => (fun _ => false) j || j == ia) tr H := by
              refine foldH_congr tr _ _ H fun j oj vj hj hjt hkj => ?_
              have hoj := hget j oj vj hj hjt
              by_cases hja : j = ia
              · subst hja; simp [hla]
              · have hf : (j == ia) = false := by simp [hja]
                rw [hf]
                simp only [Bool.or_false]
                rcases Nat.lt_trichotomy j i with hji | rfl | hij
                · exact absurd hkj (hpre j oj vj hj hjt (by omega))
                · exact hLi
                · cases hlj : listed.getD j false with
                  | false => rfl
                  | true =>
                    rcases (behind j oj hoj hij hlj).2 with h' | h'
                    · exact absurd ((apart_spec h').2.2.2 hkj) hk0
                    · exact absurd h' hja
            rw [e1]
            exact foldH_add tr ia (fun _ => false) H hal hka fun _ _ _ _ _ _ _ => rfl
          have stG := (hg i o v h hti hia).congr (env' := foldE (fun j => listed.getD j false) tr env) fun t ht => by
            refine foldE_get tr _ _ env env (fun j oj vj hj hjt hd => ?_) rfl
            have hoj := hget j oj vj hj hjt
            rcases Nat.lt_trichotomy j i with hji | rfl | hij
            · rcases ahead j oj hoj hji with h | h
              · simp only [h, hji, decide_true]
              · exact absurd ht ((apartD_spec h.1).1 t hd).1
            · simp only [hLi, Nat.lt_irrefl, decide_false]
            · cases hlj : listed.getD j false with
              | false => simp; omega
              | true => exact absurd ht ((apartD_spec (behind j oj hoj hij hlj).1).2 t hd)
          rw [← hG] at stG
          exact ⟨_, stG, same hk2⟩
        · have noex : ∀ (j : Nat) oj, ops[j]? = some oj → i < j → listed.getD j false = true → apartB qt T ops o oj = true := fun j oj hj hij hl => by
            rcases (behind j oj hj hij hl).2 with h' | h'
            · exact h'
            · exact absurd ⟨by omega, h' ▸ hl⟩ hex
          have he : foldH qt T (fun j => decide (j < i)) tr H = foldH qt T (fun j => listed.getD j false) tr H := by
            refine foldH_congr tr _ _ H fun j oj vj hj hjt hkj => ?_
            have hoj := hget j oj vj hj hjt
            rcases Nat.lt_trichotomy j i with hji | rfl | hij
            · rcases ahead j oj hoj hji with h | h
              · simp only [h, hji, decide_true]
              · rcases h.2 with h' | h'
                · exact absurd ((apart_spec h').2.2.1 hkj) hk0
                · exact absurd hkj (hpre j oj vj hj hjt (by omega))
            · simp only [hLi, Nat.lt_irrefl, decide_false]
            · cases hlj : listed.getD j false with
              | false => simp; omega
              | true => exact absurd ((apart_spec (noex j oj hoj hij hlj)).2.2.2 hkj) hk0
          rw [he] at st1
          refine ⟨h, st1, ?_⟩
          by_cases hk2 : heapKind qt T o.op = 2
          · refine (foldH_add tr i (fun j => listed.getD j false) H hti hk2 fun j oj vj hj hij hjt hkj => ?_).symm
            have hoj := hget j oj vj hj hjt
            cases hlj : listed.getD j false with
            | false => rfl
            | true => exact absurd ((apart_spec (noex j oj hoj hij hlj)).2.2.2 hkj) hk0
          · rw [← same hk2]; exact st1.kept hk2
    obtain ⟨h2, st2, hh2⟩ := hheap
    refine st2.wpOp hT hM ho q hR fun cv W' ρ' l hv hr => ?_
    refine ih (listed.setIfInBounds i true) _ W' ρ' (by simp [hsz]) ?_ ?_ (hl.trans l) ?_ ?_
    · rw [hset]
      intro p op hp hlp e he hb
      simp only [Bool.or_eq_true, beq_iff_eq] at hlp ⊢
      rcases hlp with hlp | rfl
      · exact .inl (hcl p op hp hlp e he hb)
      · rw [ho] at hp; cases hp
        exact .inl (hedge e he hb)
    · have := count_set listed.toList i (by simp [hlt] at h1 ⊢; exact h1)
      rw [Array.toList_setIfInBounds]
      omega
    · rw [hset, foldE_add tr i (fun j => listed.getD j false) env hti hLi fun j oj vj hj hij hjt hlj x hx hd => ?_]
      · exact (q.mono l).put _ hv
      · have hoj := hget j oj vj hj hjt
        exact ((apartD_spec (behind j oj hoj hij hlj).1).1 x hd).2 hx
    · rw [hset, ← hh2]; exact hr


/-- What stands ahead of the allocation: it leaves the heap alone, and comes to the same behind the allocation. -/
def RunP (qt : FuncId → Bool) (P : Program) (T : Tab) (M : Addr → Option AV) (ops : Array Oper) (H : Heap) (B : HB) : List Oper → List AV → (List AV → Prop) → Prop
  | [], env, K => K env
  | o :: os, env, K => heapKind qt T o.op ≠ 2 ∧ ∃ v, StepG qt P T M ops o env H v H ∧ StepG qt P T M ops o env (H ++ [B]) v (H ++ [B]) ∧ RunP qt P T M ops H B os (putA env o.dst v) K

theorem RunP.trace {P : Program} {T : Tab} {M : Addr → Option AV} {ops : Array Oper} {H : Heap} {B : HB} {oa : Oper} {va : AV} {rest : List Oper} {env' : List AV} {H' : Heap} (hka : heapKind qt T oa.op = 2) : ∀ (os : List Oper) (env : List AV),
    RunP qt P T M ops H B os env (fun e => StepG qt P T M ops oa e H va (H ++ [B]) ∧ RunD qt P T M ops rest (putA e oa.dst va) (H ++ [B]) env' H') →
    ∃ tr : Tr, tr.map (·.1) = os ++ oa :: rest ∧ (∀ (i : Nat) o v h, tr[i]? = some (o, v, h) → StepG qt P T M ops o (foldE (fun j => decide (j < i)) tr env) (foldH qt T (fun j => decide (j < i)) tr H) v h) ∧
      (∀ (i : Nat) o v h, tr[i]? = some (o, v, h) → i < os.length → StepG qt P T M ops o (foldE (fun j => decide (j < i)) tr env) (H ++ [B]) v (H ++ [B])) ∧
      (∀ (i : Nat) o v h, tr[i]? = some (o, v, h) → i < os.length → heapKind qt T o.op ≠ 2) ∧ tr[os.length]? = some (oa, va, H ++ [B]) ∧
      env' = foldE (fun _ => true) tr env ∧ H' = foldH qt T (fun _ => true) tr H
  | [], env, h => by
    obtain ⟨hs, hr⟩ := h
    obtain ⟨tr, e1, e2, e3, e4⟩ := RunD.trace (oa :: rest) env H env' H' ⟨va, H ++ [B], hs, hr⟩
    have hr2 : RunD qt P T M ops (oa :: rest) env H env' H' := ⟨va, H ++ [B], hs, hr⟩
    obtain ⟨tr2, f1, f2, f3, f4⟩ := RunD.trace rest _ _ _ _ hr
    have hH : (if (true && heapKind qt T oa.op == 2) = true then H ++ [B] else H) = H ++ [B] := by simp [hka]
    refine ⟨(oa, va, H ++ [B]) :: tr2, by simp [f1], fun i o v h hi => ?_, fun i _ _ _ _ hl => absurd hl (by simp), fun i _ _ _ _ hl => absurd hl (by simp), rfl, ?_, ?_⟩
    · cases i with
      | zero =>
        simp only [List.getElem?_cons_zero, Option.some.injEq, Prod.mk.injEq] at hi
        obtain ⟨rfl, rfl, rfl⟩ := hi
        rw [foldE_none _ _ _ fun j _ => by simp, foldH_none _ _ _ fun j _ _ _ _ _ => by simp]
        exact hs
      | succ i =>
        simp only [foldE, foldH]
        have e : (fun j => decide (j + 1 < i + 1)) = fun j => decide (j < i) := by funext j; simp
        have e0 : decide (0 < i + 1) = true := by simp
        rw [e]
        simp only [e0, hH, if_true]
        exact f2 i o v h (by simpa using hi)
    · simp only [foldE, if_true]; exact f3
    · simp only [foldH, hH]; exact f4
  | o :: os, env, h => by
    obtain ⟨hk, v, s1, s2, hr⟩ := h
    obtain ⟨tr, e1, e2, e3, e4, e5, e6, e7⟩ := RunP.trace hka os _ hr
    have hH : (if (true && heapKind qt T o.op == 2) = true then H else H) = H := by simp
    refine ⟨(o, v, H) :: tr, by simp [e1], fun i o' v' h' hi => ?_, fun i o' v' h' hi hl => ?_, fun i o' v' h' hi hl => ?_, by simpa using e5, ?_, ?_⟩
    · cases i with
      | zero =>
        simp only [List.getElem?_cons_zero, Option.some.injEq, Prod.mk.injEq] at hi
        obtain ⟨rfl, rfl, rfl⟩ := hi
        rw [foldE_none _ _ _ fun j _ => by simp, foldH_none _ _ _ fun j _ _ _ _ _ => by simp]
        exact s1
      | succ i =>
        simp only [foldE, foldH]
        have e : (fun j => decide (j + 1 < i + 1)) = fun j => decide (j < i) := by funext j; simp
        have e0 : decide (0 < i + 1) = true := by simp
        rw [e]
        simp only [e0, hH, if_true]
        exact e2 i o' v' h' (by simpa using hi)
    · cases i with
      | zero =>
        simp only [List.getElem?_cons_zero, Option.some.injEq, Prod.mk.injEq] at hi
        obtain ⟨rfl, rfl, rfl⟩ := hi
        rw [foldE_none _ _ _ fun j _ => by simp]
        exact s2
      | succ i =>
        simp only [foldE]
        have e : (fun j => decide (j + 1 < i + 1)) = fun j => decide (j < i) := by funext j; simp
        have e0 : decide (0 < i + 1) = true := by simp
        rw [e]
        simp only [e0, if_true]
        exact e3 i o' v' h' (by simpa using hi) (by simpa using hl)
    · cases i with
      | zero =>
        simp only [List.getElem?_cons_zero, Option.some.injEq, Prod.mk.injEq] at hi
        obtain ⟨rfl, rfl, rfl⟩ := hi
        exact hk
      | succ i => exact e4 i o' v' h' (by simpa using hi) (by simpa using hl)
    · simp only [foldE, if_true]; exact e6
    · simp only [foldH, hH]; exact e7

/-- A DRAWN REGION with such an allocation. -/
theorem SemC.drawnA {P : Program} {T : Tab} {M : Addr → Option AV} (hS : Sound P T) {id : Nat} {ops : Array Oper} {os rest : List Oper} {oa : Oper} {va : AV} {B : HB} {env env' : List AV} {H H' : Heap} {Q : Out → List AV → Heap → Prop} (hops : ops.toList = os ++ oa :: rest) (hreg : regA qt T ops os.length = true) (hka : heapKind qt T oa.op = 2)
    (hrun : RunP qt P T M ops H B os env (fun e => StepG qt P T M ops oa e H va (H ++ [B]) ∧ RunD qt P T M ops rest (putA e oa.dst va) (H ++ [B]) env' H')) (h : Q .normal env' H') : SemC P M (.region id ops true) env H Q := by
  obtain ⟨tr, e1, e2, e3, e4, e5, e6, e7⟩ := RunP.trace hka os env hrun
  intro W0 W ρ a hM hR q
  refine wp_region_any hS.mixed ?_
  have h0 : (fun j => (Array.replicate ops.size false).getD j false) = fun _ => false := by
    funext j
    simp [Array.getElem?_replicate]
    split <;> rfl
  refine wpAny_okA (ρ0 := ρ) (env := env) (H := H) hS.tok hM hreg (by rw [e1, hops]) e2 e3 e4 e5 hka (fun ρ' a' W' l q' r' => ⟨.normal, env', H', ρ', rfl, h, l, by rw [e6]; exact q', by rw [e7]; exact r'⟩) ops.size _ a _ ρ (by simp) ?_ ?_ (Le.refl ρ) ?_ ?_
  · rw [h0]; intro _ _ _ h; cases h
  · simp
  · rw [h0, foldE_none _ _ _ fun _ _ => rfl]; exact q
  · rw [h0, foldH_none _ _ _ fun _ _ _ _ _ _ => rfl]; exact hR.drawn _

/-- A function's first statements walked, the rest by other means. -/
theorem xcutA {P : Program} {T : Tab} {M : Addr → Option AV} (hS : Sound P T) {Q : Out → List AV → Heap → Prop} : ∀ (n : Nat) (c : Code) (env : List AV) (H : Heap), okC n c = true → codeB qt T (preC n c) = true →
    xC qt (callX P M) (loopX qt P T M) T M (preC n c) env H (fun o e h => match o with | .normal => SemC P M (sufC n c) e h Q | .exit i => Q (.exit i) e h | .ret => Q .ret e h) .mk → SemC P M c env H Q
  | 0, c, env, H, _, _, h => h
  | n + 1, c, env, H, hok, hb, h => by
    cases c with
    | seq a b =>
      simp only [preC, codeB, Bool.and_eq_true] at hb
      refine .seq ((xC_sound hS a env H _ hb.1 h).mono fun o e h' hq => ?_)
      cases o with
      | normal => exact xcutA hS n b e h' hok hb.2 hq
      | exit i => exact hq
      | ret => exact hq
    | _ => cases hok

end Go.Proofs.YtecfmnldanahiaaDoor.E
