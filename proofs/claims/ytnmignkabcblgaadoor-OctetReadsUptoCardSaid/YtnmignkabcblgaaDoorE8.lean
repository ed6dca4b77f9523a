/- Part of a claim: the operations' soundness, fourth part: operators, conversions, elements, slices. Nothing of a program stands here. -/
import Derived.Test.YtnmignkabcblgaaDoorE7
import Derived.Laws.Concat
import Derived.Laws.BytesString
set_option linter.unusedSimpArgs false
set_option linter.unusedVariables false
namespace Go.Proofs.YtnmignkabcblgaaDoor.E
open Go Go.RowKit

theorem binOp_eql (t : TypeId) (u v : Value) (h1 : ∀ k a k' b, ¬ (u = .int k a ∧ v = .int k' b)) (h2 : ∀ k a k' b, ¬ (u = .float k a ∧ v = .float k' b))
    (h3 : ∀ k a b k' c d, ¬ (u = .complex k a b ∧ v = .complex k' c d)) (h4 : ∀ a b, ¬ (u = .string a ∧ v = .string b)) :
    binOp .eql t u v = (do pure (.bool (← Op.equal t u v))) ∧ binOp .neq t u v = (do pure (.bool (!(← Op.equal t u v)))) := by
  cases u <;> cases v <;> first
    | exact ⟨rfl, rfl⟩
    | exact absurd ⟨rfl, rfl⟩ (h1 _ _ _ _)
    | exact absurd ⟨rfl, rfl⟩ (h2 _ _ _ _)
    | exact absurd ⟨rfl, rfl⟩ (h3 _ _ _ _ _ _)
    | exact absurd ⟨rfl, rfl⟩ (h4 _ _)

theorem guard_plain (op : BinOp) (t : TypeId) (xo yo : Operand) (u v : Value) (h1 : ¬ (u = .nilIface ∧ v = .nilIface)) (h2 : ∀ a b, ¬ (u = .agg a ∧ v = .agg b)) : eqGuard op t xo yo u v = pure () := by
  cases op <;> first
    | rfl
    | (cases u <;> cases v <;> first
        | rfl
        | exact absurd ⟨rfl, rfl⟩ h1
        | exact absurd ⟨rfl, rfl⟩ (h2 _ _))

theorem guard_agg {P : Program} {t : TypeId} (h : P.eqGuardType P.depth t = false) (op : BinOp) (xo yo : Operand) (a b : Array Value) (W : World) : (eqGuard op t xo yo (.agg a) (.agg b)).run P W = .ok () W := by
  cases op <;> first
    | rfl
    | simp [eqGuard, Sem.run_bind, run_program, h, Sem.run_pure]

theorem guard_nil {P : Program} {t : TypeId} (op : BinOp) (xo yo : Operand) (h : (isConstA xo || isConstA yo) = true) (W : World) : (eqGuard op t xo yo .nilIface .nilIface).run P W = .ok () W := by
  cases op <;> first
    | rfl
    | (cases xo <;> cases yo <;> first
        | (simp [isConstA] at h; done)
        | rfl)

theorem eqA_other {T : Tab} {n : Nat} {t : TypeId} {x y : AV} {b : Bool} (h : eqA T n t x y = some b) : (∀ w, x ≠ .other w) ∧ (∀ w, y ≠ .other w) := by
  cases n with
  | zero => simp [eqA] at h
  | succ n =>
    unfold eqA at h
    split at h
    · cases h
    · split at h <;> first
        | (cases h; done)
        | exact ⟨fun w => by simp, fun w => by simp⟩

theorem VR.inv {ρ : Asg} {x : AV} {u : Value} (h : VR ρ x u) (ho : ∀ w, x ≠ .other w) :
    (∀ k a, u = .int k a → x = .int k a) ∧ (∀ k a, u = .float k a → ∃ a', x = .float k a') ∧ (∀ k a b, u = .complex k a b → ∃ a' b', x = .cplx k a' b') ∧
    (∀ s, u = .string s → ∃ l, x = .str l) ∧ (u = .nilIface → x = .nilIface) ∧ (∀ a, u = .agg a → ∃ l, x = .agg l) := by
  cases x
  case other w => exact absurd rfl (ho w)
  all_goals
    simp only [VR] at h
    first
      | (subst h; simp; done)
      | (obtain ⟨_, rfl, _⟩ := h; simp; done)
      | (obtain ⟨_, _, rfl, _⟩ := h; simp; done)
      | (obtain ⟨_, _, _, rfl⟩ := h; simp; done)
      | (obtain ⟨_, _, _, _, rfl, _⟩ := h; simp; done)

theorem bin_ok {P : Program} {T : Tab} (hT : TOK P T) {ρ : Asg} {H : Heap} {W0 W : World} (hR : Rel ρ H W0 W) {op : BinOp} {t : TypeId} {xo yo : Operand} {x y z : AV} (h : binA T op t xo yo x y = some z) {u v : Value}
    (hx : VR ρ x u) (hy : VR ρ y v) : Yields P (do eqGuard op t xo yo u v; binOp op t u v) ρ W0 W z H := by
  have plain : ∀ cv, eqGuard op t xo yo u v = pure () → (binOp op t u v).run P W = .ok cv W → VR ρ z cv → Yields P (do eqGuard op t xo yo u v; binOp op t u v) ρ W0 W z H := by
    intro cv hg hr hv
    refine Yields.same ?_ hv hR
    rw [hg, Sem.run_bind, Sem.run_pure]
    exact hr
  unfold binA at h
  split at h
  · rename_i k a k' b
    simp only [VR] at hx hy
    subst hx; subst hy
    have hg := guard_plain op t xo yo (.int k a) (.int k' b) (by simp) (by simp)
    split at h
    · obtain ⟨h1, h2⟩ := shiftOp_ok (P := P) (k' := k') h t W
      exact plain _ hg h1 (h2 ρ)
    · obtain ⟨h1, h2⟩ := shiftOp_ok (P := P) (k' := k') h t W
      exact plain _ hg h1 (h2 ρ)
    · rename_i n1 n2
      split at h
      · rename_i hk
        subst hk
        obtain ⟨h1, h2⟩ := intOp_ok (P := P) h ⟨n1, n2⟩ t W
        exact plain _ hg h1 (h2 ρ)
      · cases h
  · rename_i k a k' b
    simp only [VR] at hx hy
    obtain ⟨a', rfl, ha⟩ := hx
    obtain ⟨b', rfl, hb⟩ := hy
    have hg := guard_plain op t xo yo (.float k a') (.float k' b') (by simp) (by simp)
    split at h
    · rename_i hk
      subst hk
      split at h
      · rename_i r hr
        cases h
        obtain ⟨r', n, h1, h2⟩ := fArith_ok (P := P) hr ha hb W
        obtain ⟨hop, _⟩ := fArith_eq hr
        refine ⟨.float k r', { W with drawn := n }, ρ, ?_, Le.refl ρ, by simp only [VR]; exact ⟨_, rfl, h2⟩, hR.drawn n⟩
        rw [hg, Sem.run_bind, Sem.run_pure]
        rcases hop with rfl | rfl | rfl | rfl <;> simpa [binOp] using h1
      · rename_i hr
        simp only [Option.map_eq_some_iff] at h
        obtain ⟨bo, h1, rfl⟩ := h
        refine plain (.bool bo) hg ?_ (by simp only [VR])
        have ho := FR.order ha hb
        cases op <;> simp only [ordB] at h1 <;> first
          | (cases h1; done)
          | (cases h1; simp [binOp, Op.floatCmp, Sem.run_pure, ho])
    · cases h
  · rename_i k a b k' c d
    simp only [VR] at hx hy
    obtain ⟨a', b', rfl, ha, hb⟩ := hx
    obtain ⟨c', d', rfl, hc, hd⟩ := hy
    split at h
    · rename_i hk
      obtain ⟨rfl, rfl⟩ := hk
      obtain ⟨cv, n, h1, h2⟩ := cplxOp_ok (P := P) h ha hb hc hd t W
      refine ⟨cv, _, ρ, ?_, Le.refl ρ, h2 ρ, hR.drawn n⟩
      rw [guard_plain op t xo yo _ _ (by simp) (by simp), Sem.run_bind, Sem.run_pure]
      exact h1
    · cases h
  · rename_i a b
    simp only [VR] at hx hy
    subst hx; subst hy
    obtain ⟨h1, h2⟩ := strOp_ok (P := P) h t W
    exact plain _ (guard_plain op t xo yo _ _ (by simp) (by simp)) h1 (h2 ρ)
  · rename_i n1 n2 n3 n4
    split at h
    · rename_i hcond
      have fin : ∀ b0, eqA T 64 t x y = some b0 → ∀ r : Bool, (op = .eql ∧ r = b0 ∨ op = .neq ∧ r = !b0) → z = .bool r → Yields P (do eqGuard op t xo yo u v; binOp op t u v) ρ W0 W z H := by
        intro b0 he r hop hz
        subst hz
        obtain ⟨ox, oy⟩ := eqA_other he
        obtain ⟨x1, x2, x3, x4, x5, x6⟩ := hx.inv ox
        obtain ⟨y1, y2, y3, y4, y5, y6⟩ := hy.inv oy
        have hguard : (eqGuard op t xo yo u v).run P W = .ok () W := by
          by_cases c1 : u = .nilIface ∧ v = .nilIface
          · have e1 := x5 c1.1
            have e2 := y5 c1.2
            subst e1; subst e2
            obtain ⟨rfl, rfl⟩ := c1
            exact guard_nil op xo yo hcond W
          · by_cases c2 : ∃ a b, u = .agg a ∧ v = .agg b
            · obtain ⟨a, b, rfl, rfl⟩ := c2
              obtain ⟨l, rfl⟩ := x6 a rfl
              obtain ⟨l', rfl⟩ := y6 b rfl
              simp only [eqGuardA] at hcond
              split at hcond
              · rename_i i hi
                exact guard_agg (by rw [hT.eqg hi]; simpa using hcond) op xo yo a b W
              · cases hcond
            · rw [guard_plain op t xo yo u v c1 (fun a b hab => c2 ⟨a, b, hab⟩)]
              rfl
        obtain ⟨g1, g2⟩ := binOp_eql t u v
          (fun k a k' b hh => n1 k a k' b (x1 k a hh.1) (y1 k' b hh.2))
          (fun k a k' b hh => by obtain ⟨a', e1⟩ := x2 k a hh.1; obtain ⟨b', e2⟩ := y2 k' b hh.2; exact n2 k a' k' b' e1 e2)
          (fun k a b k' c d hh => by obtain ⟨a', b', e1⟩ := x3 k a b hh.1; obtain ⟨c', d', e2⟩ := y3 k' c d hh.2; exact n3 k a' b' k' c' d' e1 e2)
          (fun a b hh => by obtain ⟨a', e1⟩ := x4 a hh.1; obtain ⟨b', e2⟩ := y4 b hh.2; exact n4 a' b' e1 e2)
        have hq := (eq_ok hT (ρ := ρ) (W := W) 64).1 t x y b0 10000 u v he (by omega) hx hy
        refine Yields.same (cv := .bool r) ?_ (by simp only [VR]) hR
        rw [Sem.run_bind, hguard]
        simp only [Result.andThen_ok]
        rcases hop with ⟨rfl, rfl⟩ | ⟨rfl, rfl⟩
        · rw [g1]; simp only [Sem.run_bind, Op.equal, Op.maxDepth, hq, Result.andThen_ok, Sem.run_pure]
        · rw [g2]; simp only [Sem.run_bind, Op.equal, Op.maxDepth, hq, Result.andThen_ok, Sem.run_pure]
      split at h
      · simp only [Option.map_eq_some_iff] at h
        obtain ⟨b0, he, hz⟩ := h
        exact fin b0 he b0 (.inl ⟨rfl, rfl⟩) hz.symm
      · simp only [Option.map_eq_some_iff] at h
        obtain ⟨b0, he, hz⟩ := h
        exact fin b0 he (!b0) (.inr ⟨rfl, rfl⟩) hz.symm
      · cases h
    · cases h

theorem neg_FR {k : FloatKind} {a b : Nat} (h : FR k a b) (hn : isNaN k a = false) : FR k (negF k a) (Op.negFloat k b) := by
  rcases h with rfl | ⟨h1, _⟩
  · exact FR.refl _ _
  · rw [hn] at h1; cases h1

theorem un_ok {P : Program} {ρ : Asg} {H : Heap} {W0 W : World} (hR : Rel ρ H W0 W) {op : UnOp} {x z : AV} (h : unA op x = some z) {u : Value} (hx : VR ρ x u) : Yields P (Op.unary op u) ρ W0 W z H := by
  unfold unA at h
  split at h
  · rename_i k n
    simp only [VR] at hx; subst hx; cases h
    exact Yields.same (cv := .int k (k.wrap (0 - n))) rfl (by simp only [VR]) hR
  · rename_i k n
    simp only [VR] at hx; subst hx; cases h
    exact Yields.same (cv := .int k (k.wrap (BitVec.ofInt k.bits (if k.signed then -1 else k.max) ^^^ BitVec.ofInt k.bits n).toNat)) rfl (by simp only [VR]) hR
  · rename_i k b
    simp only [VR] at hx; obtain ⟨b', rfl, hb⟩ := hx
    split at h
    · cases h
    · rename_i hn
      cases h
      exact Yields.same (cv := .float k (Op.negFloat k b')) rfl (by simp only [VR]; exact ⟨_, rfl, neg_FR hb (by simpa using hn)⟩) hR
  · rename_i k a b
    simp only [VR] at hx; obtain ⟨a', b', rfl, ha, hb⟩ := hx
    split at h
    · cases h
    · rename_i hn
      cases h
      simp only [Bool.or_eq_true, not_or, Bool.not_eq_true] at hn
      exact Yields.same (cv := .complex k (Op.negFloat k a') (Op.negFloat k b')) rfl (by simp only [VR]; exact ⟨_, _, rfl, neg_FR ha hn.1, neg_FR hb hn.2⟩) hR
  · rename_i b
    simp only [VR] at hx; subst hx; cases h
    exact Yields.same (cv := .bool (!b)) rfl (by simp only [VR]) hR
  · cases h

end Go.Proofs.YtnmignkabcblgaaDoor.E
