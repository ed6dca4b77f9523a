/- Part of a claim: what the evaluator answers is what the machine answers. Nothing of a program stands here. -/
import Derived.Test.YtnmignkabcblgaaDoorE19
set_option linter.unusedSimpArgs false
set_option linter.unusedVariables false
namespace Go.Proofs.YtnmignkabcblgaaDoor.E
open Go Go.RowKit

theorem MOK.later {M : Addr → Option AV} {ρ : Asg} {H : Heap} {W0 W : World} (hM : MOK M W0) (hR : Rel ρ H W0 W) : MOK M W := fun a v hv => by
  obtain ⟨cv, h1, h2⟩ := hM a v hv
  refine ⟨cv, ?_, h2⟩
  have hlt : a.block < W0.heap.size := World.block_lt_of_cell? _ _ h1
  simp only [World.cell?] at h1 ⊢
  rw [hR.below.block _ hlt]; exact h1

theorem Rel.start (W : World) : Rel (fun _ _ => none) [] W W :=
  ⟨Below.refl _ _, (by intro b e l h; cases h), (by intro b b' e e' l l' h; cases h), (by intro b x h; simp at h)⟩

/-- What a call leaves alone still stands. -/
theorem Rel.later {ρ : Asg} {H : Heap} {W0 W W' : World} (h : Rel ρ H W0 W) (hb : Below W.heap.size W W') : Rel ρ H W0 W' := by
  refine ⟨h.below.trans (hb.mono h.below.size), fun b e l q => ?_, h.own, fun b x hx => ?_⟩
  · obtain ⟨h1, h2, h3⟩ := h.dom b e l q
    exact ⟨h1, h2, Nat.lt_of_lt_of_le h3 hb.size⟩
  · have hk := h.blk b x hx
    have hp : ∀ e l, ρ b e = some l → W'.heap[l.cb]? = W.heap[l.cb]? := fun e l q => hb.block _ (h.dom b e l q).2.2
    cases x with
    | c cells elem ep sep =>
      obtain ⟨h1, h2, h4, h5⟩ := hk
      exact ⟨h1, h2, h4, fun e l he q => (h5 e l he q).mono (Le.refl ρ) (hp e l q)⟩
    | it s pos =>
      obtain ⟨⟨l, h1, h2⟩, h3⟩ := hk
      exact ⟨⟨l, h1, by rw [hp 0 l h1]; exact h2⟩, h3⟩
    | dead => trivial

mutual
theorem flat_VR {ρ ρ' : Asg} : ∀ (x : AV) (v : Value), flat x = true → VR ρ x v → VR ρ' x v
  | .bool _, _, _, q => by simpa only [VR] using q
  | .int _ _, _, _, q => by simpa only [VR] using q
  | .float _ _, _, _, q => by simpa only [VR] using q
  | .cplx _ _ _, _, _, q => by simpa only [VR] using q
  | .str _, _, _, q => by simpa only [VR] using q
  | .nilptr, _, _, q => by simpa only [VR] using q
  | .ptr _ _ _, _, h, _ => by simp [flat] at h
  | .optr _, _, _, q => by simpa only [VR] using q
  | .nilslice, _, _, q => by simpa only [VR] using q
  | .slice _ _ _ _ _ _, _, h, _ => by simp [flat] at h
  | .oslice _ _ _, _, _, q => by simpa only [VR] using q
  | .func _, _, _, q => by simpa only [VR] using q
  | .nilfunc, _, _, q => by simpa only [VR] using q
  | .iface _ x, _, h, q => by
    simp only [VR] at q ⊢
    obtain ⟨y, rfl, hy⟩ := q
    exact ⟨y, rfl, flat_VR x y (by simpa [flat] using h) hy⟩
  | .nilIface, _, _, q => by simpa only [VR] using q
  | .agg l, _, h, q => by
    simp only [VR] at q ⊢
    obtain ⟨vs, rfl, hy⟩ := q
    exact ⟨vs, rfl, flats_VRs l _ (by simpa [flat] using h) hy⟩
  | .tup l, _, h, q => by
    simp only [VR] at q ⊢
    obtain ⟨vs, rfl, hy⟩ := q
    exact ⟨vs, rfl, flats_VRs l _ (by simpa [flat] using h) hy⟩
  | .other _, _, _, q => by simpa only [VR] using q
theorem flats_VRs {ρ ρ' : Asg} : ∀ (l : List AV) (vs : List Value), flats l = true → VRs ρ l vs → VRs ρ' l vs
  | [], _, _, q => by simpa only [VRs] using q
  | x :: xs, _, h, q => by
    simp only [VRs] at q ⊢
    simp only [flats, Bool.and_eq_true] at h
    obtain ⟨y, ys, rfl, h1, h2⟩ := q
    exact ⟨y, ys, rfl, flat_VR x y h.1 h1, flats_VRs xs ys h.2 h2⟩
end

/-- A call whose arguments and whose answer bear no place turns nothing of the caller's heap. -/
theorem SemF.pure {P : Program} {M : Addr → Option AV} {k : FuncId} {args : List AV} {Q : AV → Prop} (ha : flats args = true) (h : SemF P M k args [] fun v _ => flat v = true ∧ Q v) (H : Heap) : SemF P M k args H fun v h => Q v ∧ h = H := by
  intro W0 W ρ cargs hM hR hv
  refine (h W W (fun _ _ => none) cargs (hM.later hR) (Rel.start W) (flats_VRs _ _ ha hv)).mono ?_
  intro cv W' ⟨v, H', ρ', ⟨h1, h2⟩, _, h4, h5⟩
  exact ⟨v, H, ρ, ⟨h2, rfl⟩, Le.refl ρ, flat_VR v cv h1 h4, hR.later h5.below⟩

def codeB (T : Tab) : Code → Bool
  | .region _ ops d => !d || regB T ops
  | .seq a b | .cond _ a b => codeB T a && codeB T b
  | .block _ c | .loop c => codeB T c
  | _ => true

/-- What the evaluator's program must be. -/
structure GOK (P : Program) (G : Prg) (M : Addr → Option AV) : Prop where
  sound : Sound P G.T
  fn : ∀ k fn, G.F k = some fn → P.funcs[k]? = some fn
  name : ∀ k fn, G.F k = some fn → (fn.name == "runtime.NumGoroutine") = false
  reg : ∀ k fn c, G.F k = some fn → fn.body = some c → codeB G.T c = true
  ext : ∀ k f, G.X k = some f → ∀ args H v H', f args H = some (v, H') → SemF P M k args H fun v' h => v' = v ∧ h = H'

theorem GOK.of {P : Program} {T : Tab} {F : FuncId → Option Func} {X : FuncId → Option (List AV → Heap → Option (AV × Heap))} {M : Addr → Option AV} (h1 : Sound P T) (h2 : ∀ k fn, F k = some fn → P.funcs[k]? = some fn)
    (h3 : ∀ k fn, F k = some fn → (fn.name == "runtime.NumGoroutine") = false) (h4 : ∀ k fn c, F k = some fn → fn.body = some c → codeB T c = true)
    (h5 : ∀ k f, X k = some f → ∀ args H v H', f args H = some (v, H') → SemF P M k args H fun v' h => v' = v ∧ h = H') : GOK P ⟨T, F, X⟩ M := ⟨h1, h2, h3, h4, h5⟩

theorem evOps_ok {P : Program} {T : Tab} {M : Addr → Option AV} {call : CallT} {ops : Array Oper} (hcall : ∀ k args H v H', call k args H = some (v, H') → SemF P M k args H fun v' h => v' = v ∧ h = H') :
    ∀ (os : List Oper) (env : List AV) (H : Heap) (env' : List AV) (H' : Heap), evOps T M call ops os env H = some (env', H') → RunD P T M ops os env H env' H'
  | [], env, H, env', H', h => by simp only [evOps] at h; cases h; exact ⟨rfl, rfl⟩
  | o :: os, env, H, env', H', h => by
    simp only [evOps] at h
    split at h
    · rename_i hw
      split at h
      · rename_i v H1 hs
        refine ⟨v, H1, .inl ⟨hw, ?_⟩, evOps_ok hcall os _ _ _ _ h⟩
        unfold evStep at hs
        unfold StepD
        split at hs
        · rename_i f args ats ho
          split at hs
          · rename_i k hk
            have : callOf o.op = some (f, args.toList) := by rw [ho]; rfl
            simp only [this]
            exact ⟨k, hk, hcall _ _ _ _ _ hs⟩
          · cases hs
        · rename_i hno
          have : callOf o.op = none := by
            unfold callOf
            split
            · rename_i f args ats ho; exact absurd ho (hno f args ats)
            · rfl
          simp only [this]
          exact hs
      · cases h
    · rename_i hw
      exact ⟨.tup [], H, .inr ⟨hw, rfl, rfl⟩, evOps_ok hcall os _ _ _ _ h⟩
    · cases h

theorem RunD.toQ {P : Program} {T : Tab} {M : Addr → Option AV} {ops : Array Oper} : ∀ (os : List Oper) (env : List AV) (H : Heap) (env' : List AV) (H' : Heap) (Q : List AV → Heap → Prop), RunD P T M ops os env H env' H' → Q env' H' → RunQ P T M ops os env H Q
  | [], env, H, env', H', Q, h, hq => by obtain ⟨rfl, rfl⟩ := h; exact hq
  | o :: os, env, H, env', H', Q, h, hq => by
    obtain ⟨v, H1, hs, hr⟩ := h
    rcases hs with ⟨hw, hs⟩ | ⟨hw, rfl, rfl⟩
    · refine .inl ⟨hw, ?_⟩
      have := hs.toQ
      unfold StepQ at this ⊢
      cases hc : callOf o.op with
      | some fa =>
        simp only [hc] at this ⊢
        obtain ⟨k, hk, h⟩ := this
        exact ⟨k, hk, h.mono fun v' h' ⟨e1, e2⟩ => by subst e1 e2; exact RunD.toQ os _ _ _ _ Q hr hq⟩
      | none =>
        simp only [hc] at this ⊢
        obtain ⟨v', h', he, e1, e2⟩ := this
        subst e1 e2
        exact ⟨_, _, he, RunD.toQ os _ _ _ _ Q hr hq⟩
    · exact .inr ⟨hw, RunD.toQ os _ _ _ _ Q hr hq⟩

/-- A region whose operations come to one thing alone. -/
theorem SemC.region {P : Program} {T : Tab} {M : Addr → Option AV} {env env' : List AV} {H H' : Heap} {Q : Out → List AV → Heap → Prop} (hS : Sound P T) {id : Nat} {ops : Array Oper} {d : Bool} (hreg : codeB T (.region id ops d) = true) (hrun : RunD P T M ops ops.toList env H env' H') (h : Q .normal env' H') : SemC P M (.region id ops d) env H Q := by
  cases d with
  | false => exact SemC.text hS (hrun.toQ _ _ _ _ _ _ h)
  | true => exact SemC.drawn hS (by simpa [codeB] using hreg) hrun h

theorem ev_ok {P : Program} {G : Prg} {M : Addr → Option AV} (hG : GOK P G M) : ∀ (n : Nat),
    (∀ c env H o env' H', codeB G.T c = true → evC G M n c env H = some (o, env', H') → SemC P M c env H fun o' e h => o' = o ∧ e = env' ∧ h = H') ∧
    (∀ k args H v H', evF G M n k args H = some (v, H') → SemF P M k args H fun v' h => v' = v ∧ h = H') := by
  intro n
  induction n using Nat.strongRecOn with
  | _ n0 ih =>
  cases n0 with
  | zero => exact ⟨fun c env H o env' H' _ h => by simp [evC] at h, fun k args H v H' h => by simp [evF] at h⟩
  | succ n =>
    have ihC := (ih n (Nat.lt_succ_self n)).1
    have ihF := (ih n (Nat.lt_succ_self n)).2
    refine ⟨fun c env H o env' H' hb h => ?_, fun k args H v H' h => ?_⟩
    · simp only [evC] at h
      split at h
      · cases h; exact .skip ⟨rfl, rfl, rfl⟩
      · split at h
        · rename_i e1 H1 he
          cases h
          exact .region hG.sound hb (evOps_ok ihF _ _ _ _ _ he) ⟨rfl, rfl, rfl⟩
        · cases h
      · simp only [codeB, Bool.and_eq_true] at hb
        split at h
        · rename_i e1 H1 he
          exact .seq ((ihC _ _ _ _ _ _ hb.1 he).mono fun o' e h' ⟨h1, h2, h3⟩ => by subst h1 h2 h3; exact ihC _ _ _ _ _ _ hb.2 h)
        · rename_i hno
          refine .seq ((ihC _ _ _ _ _ _ hb.1 h).mono fun o' e h' ⟨h1, h2, h3⟩ => ?_)
          subst h1 h2 h3
          cases o' with
          | normal => exact absurd h (hno _ _)
          | exit i => exact ⟨rfl, rfl, rfl⟩
          | ret => exact ⟨rfl, rfl, rfl⟩
      · simp only [codeB, Bool.and_eq_true] at hb
        split at h
        · rename_i he; exact .cond true he (ihC _ _ _ _ _ _ hb.1 h)
        · rename_i he; exact .cond false he (ihC _ _ _ _ _ _ hb.2 h)
        · cases h
      · simp only [codeB] at hb
        split at h
        · rename_i i e1 H1 he
          split at h
          · rename_i hi
            cases h
            exact .block ((ihC _ _ _ _ _ _ hb he).mono fun o' e h' ⟨h1, h2, h3⟩ => by subst h1 h2 h3; simp [hi])
          · rename_i hi
            cases h
            exact .block ((ihC _ _ _ _ _ _ hb he).mono fun o' e h' ⟨h1, h2, h3⟩ => by subst h1 h2 h3; simp [hi])
        · rename_i hno
          refine .block ((ihC _ _ _ _ _ _ hb h).mono fun o' e h' ⟨h1, h2, h3⟩ => ?_)
          subst h1 h2 h3
          cases o' with
          | normal => exact ⟨rfl, rfl, rfl⟩
          | exit i => exact absurd h (hno _ _ _)
          | ret => exact ⟨rfl, rfl, rfl⟩
      · rename_i b
        have hb' := hb
        simp only [codeB] at hb
        refine .loop (fun m e h => m ≤ n + 1 ∧ evC G M m (.loop b) e h = some (o, env', H')) (n + 1) ⟨Nat.le_refl _, by simp only [evC]; exact h⟩ ?_
        intro m e h1 ⟨hm, he⟩
        cases m with
        | zero => simp [evC] at he
        | succ m =>
          simp only [evC] at he
          split at he
          · rename_i e1 H1 he1
            refine ((ih m (by omega)).1 _ _ _ _ _ _ hb he1).mono fun o' e2 h2 ⟨k1, k2, k3⟩ => ?_
            subst k1 k2 k3
            exact ⟨m, Nat.lt_succ_self m, by omega, he⟩
          · rename_i hno
            refine ((ih m (by omega)).1 _ _ _ _ _ _ hb he).mono fun o' e2 h2 ⟨k1, k2, k3⟩ => ?_
            subst k1 k2 k3
            cases o' with
            | normal => exact absurd he (hno _ _)
            | exit i => exact ⟨rfl, rfl, rfl⟩
            | ret => exact ⟨rfl, rfl, rfl⟩
      · cases h; exact .exit ⟨rfl, rfl, rfl⟩
      · cases h; exact .ret ⟨rfl, rfl, rfl⟩
      · cases h
    · simp only [evF] at h
      split at h
      · rename_i f hf; exact hG.ext k f hf _ _ _ _ h
      · split at h
        · cases h
        · rename_i fn hfn
          split at h
          · cases h
          · rename_i c hc
            have hreg := hG.reg k fn c hfn hc
            have run : ∀ (H H1 : Heap) (o : Out) (e : List AV) (l : List AV), evC G M n c (args ++ List.replicate (fn.ntmps - args.length) (.tup [])) H = some (o, e, H1) → (∀ i, o ≠ .exit i) → resA G.T M e H1 fn.results.toList = some l →
                SemF P M k args H fun v' h => v' = resultA l ∧ h = H1 := fun H H1 o e l he ho hr =>
              SemF.body hG.sound (hG.fn k fn hfn) (hG.name k fn hfn) hc ((ihC _ _ _ _ _ _ hreg he).mono fun o' e' h' ⟨k1, k2, k3⟩ => by
                subst k1 k2 k3
                refine ⟨?_, l, hr, rfl, rfl⟩
                cases o' with
                | normal => trivial
                | ret => trivial
                | exit i => exact absurd rfl (ho i))
            have slow : ∀ {x : Option (Out × List AV × Heap)} , x = evC G M n c (args ++ List.replicate (fn.ntmps - args.length) (.tup [])) H →
                (match x with | some (.normal, env, H') | some (.ret, env, H') => (resA G.T M env H' fn.results.toList).map fun l => (resultA l, H') | _ => none) = some (v, H') → SemF P M k args H fun v' h => v' = v ∧ h = H' := by
              intro x hx hh
              split at hh
              · rename_i e1 H1
                cases hr : resA G.T M e1 H1 fn.results.toList with
                | none => rw [hr] at hh; cases hh
                | some l =>
                  rw [hr] at hh; simp only [Option.map_some, Option.some.injEq, Prod.mk.injEq] at hh
                  obtain ⟨rfl, rfl⟩ := hh
                  exact run _ _ _ _ _ hx.symm (by intro i; simp) hr
              · rename_i e1 H1
                cases hr : resA G.T M e1 H1 fn.results.toList with
                | none => rw [hr] at hh; cases hh
                | some l =>
                  rw [hr] at hh; simp only [Option.map_some, Option.some.injEq, Prod.mk.injEq] at hh
                  obtain ⟨rfl, rfl⟩ := hh
                  exact run _ _ _ _ _ hx.symm (by intro i; simp) hr
              · cases hh
            have fast : ∀ (o : Out) (e : List AV) (H1 : Heap), (∀ i, o ≠ .exit i) → flats args = true → evC G M n c (args ++ List.replicate (fn.ntmps - args.length) (.tup [])) [] = some (o, e, H1) →
                (match resA G.T M e H1 fn.results.toList with
                 | some l => if flat (resultA l) then some (resultA l, H) else
                   match evC G M n c (args ++ List.replicate (fn.ntmps - args.length) (.tup [])) H with
                   | some (.normal, env, H') | some (.ret, env, H') => (resA G.T M env H' fn.results.toList).map fun l => (resultA l, H')
                   | _ => none
                 | none => none) = some (v, H') → SemF P M k args H fun v' h => v' = v ∧ h = H' := by
              intro o e H1 ho hfl he hh
              split at hh
              · rename_i l hr
                split at hh
                · rename_i hflat
                  cases hh
                  exact SemF.pure hfl ((run _ _ _ _ _ he ho hr).mono fun v' h ⟨k1, _⟩ => ⟨by rw [k1]; exact hflat, k1⟩) H
                · exact slow rfl hh
              · cases hh
            split at h
            · rename_i hfl
              split at h
              · rename_i e1 H1 he; exact fast _ _ _ (by intro i; simp) hfl he h
              · rename_i e1 H1 he; exact fast _ _ _ (by intro i; simp) hfl he h
              · cases h
            · exact slow rfl h

end Go.Proofs.YtnmignkabcblgaaDoor.E
