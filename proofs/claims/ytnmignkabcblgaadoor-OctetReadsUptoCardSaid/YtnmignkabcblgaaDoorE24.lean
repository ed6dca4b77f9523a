/- Part of a claim: loops in the rewriter's form; what may be forgotten of a heap. Nothing of a program stands here. -/
import Derived.Test.YtnmignkabcblgaaDoorE22
import Derived.LoopN
set_option linter.unusedSimpArgs false
set_option linter.unusedVariables false
namespace Go.Proofs.YtnmignkabcblgaaDoor.E
open Go Go.RowKit

/-- So many rounds. -/
def SemR (P : Program) (M : Addr → Option AV) (c : Code) (Q : Out → List AV → Heap → Prop) : Nat → List AV → Heap → Prop
  | 0, _, _ => False
  | n + 1, env, H => SemC P M c env H fun o e h => match o with | .normal => SemR P M c Q n e h | _ => Q o e h

theorem SemC.rounds {P : Program} {M : Addr → Option AV} {c : Code} {Q : Out → List AV → Heap → Prop} (n : Nat) {env : List AV} {H : Heap} (h : SemR P M c Q n env H) : SemC P M (.loop c) env H Q := by
  intro W0 W ρ a hM hR q
  refine wp_loop_rounds n ?_
  have key : ∀ n env H ρ1 a W, SemR P M c Q n env H → Le ρ ρ1 → RelEnv ρ1 env a → Rel ρ1 H W0 W →
      Code.rounds P c (fun e a' W' => ∃ o env' H' ρ', e = exitOf o ∧ Q o env' H' ∧ Le ρ ρ' ∧ RelEnv ρ' env' a' ∧ Rel ρ' H' W0 W') n a W := by
    intro n
    induction n with
    | zero => intro env H ρ1 a W h; exact h.elim
    | succ n ih =>
      intro env H ρ1 a W h l1 q1 r1
      refine wp_mono (h W0 W ρ1 a hM r1 q1) fun e a' W' ⟨o, env', H', ρ', h1, h2, l, q', r'⟩ => ?_
      subst h1
      cases o with
      | normal => exact ih env' H' ρ' a' W' h2 (l1.trans l) q' r'
      | exit i => exact ⟨.exit i, env', H', ρ', rfl, h2, l1.trans l, q', r'⟩
      | ret => exact ⟨.ret, env', H', ρ', rfl, h2, l1.trans l, q', r'⟩
  exact key n env H ρ a W h (Le.refl ρ) q hR

/-- H' says of a block what H says, or nothing. -/
def Weak (H H' : Heap) : Prop := H'.length = H.length ∧ ∀ (b : Nat) (x : HB), H'[b]? = some x → x = .dead ∨ H[b]? = some x

theorem Weak.refl (H : Heap) : Weak H H := ⟨rfl, fun _ _ h => .inr h⟩
theorem Weak.trans {A B C : Heap} (h : Weak A B) (k : Weak B C) : Weak A C := ⟨k.1.trans h.1, fun b x hx => (k.2 b x hx).elim .inl fun hb => h.2 b x hb⟩
theorem Weak.dead (H : Heap) (b : Nat) : Weak H (H.set b .dead) := ⟨by simp, fun b' x h => by
  rw [List.getElem?_set] at h
  split at h
  · split at h
    · cases h; exact .inl rfl
    · cases h
  · exact .inr h⟩

theorem Rel.weak {ρ : Asg} {H H' : Heap} {W0 W : World} (h : Rel ρ H W0 W) (hw : Weak H H') : Rel ρ H' W0 W :=
  ⟨h.below, fun b e l q => by rw [hw.1]; exact h.dom b e l q, h.own, fun b x hx => (hw.2 b x hx).elim (fun e => by subst e; trivial) fun hb => h.blk b x hb⟩

theorem SemF.weak {P : Program} {M : Addr → Option AV} {k : FuncId} {args : List AV} {H H1 H2 : Heap} {v : AV} (h : SemF P M k args H fun v' h => v' = v ∧ h = H1) (hw : Weak H1 H2) : SemF P M k args H fun v' h => v' = v ∧ h = H2 := by
  intro W0 W ρ cargs hM hR hv
  refine (h W0 W ρ cargs hM hR hv).mono ?_
  intro cv W' ⟨v', H', ρ', ⟨h1, h2⟩, h3, h4, h5⟩
  subst h1 h2
  exact ⟨_, H2, ρ', ⟨rfl, rfl⟩, h3, h4, h5.weak hw⟩

def loopG (P : Program) (T : Tab) (M : Addr → Option AV) : LoopR := fun c env H K => codeB T c = true → SemC P M c env H K

theorem wC_soundG {P : Program} {T : Tab} {M : Addr → Option AV} (hS : Sound P T) : ∀ (c : Code) (env : List AV) (H : Heap) (K : Out → List AV → Heap → Prop), codeB T c = true → wC (callR P M) (loopG P T M) T M c env H K .mk → SemC P M c env H K
  | .skip, env, H, K, _, h => .skip h
  | .exit id, env, H, K, _, h => .exit h
  | .ret, env, H, K, _, h => .ret h
  | .region id ops d, env, H, K, hb, h => by
    obtain ⟨env', H', hr, hq⟩ := wOps_sound _ _ _ _ h
    exact .region hS hb hr hq
  | .seq a b, env, H, K, hb, h => by
    simp only [codeB, Bool.and_eq_true] at hb
    refine .seq ((wC_soundG hS a env H _ hb.1 h).mono fun o e h' hq => ?_)
    cases o with
    | normal => exact wC_soundG hS b e h' K hb.2 hq
    | exit i => exact hq
    | ret => exact hq
  | .cond c a b, env, H, K, hb, h => by
    simp only [codeB, Bool.and_eq_true] at hb
    simp only [wC] at h
    split at h
    · rename_i he; exact .cond true he (wC_soundG hS a env H K hb.1 h)
    · rename_i he; exact .cond false he (wC_soundG hS b env H K hb.2 h)
    · exact h.elim
  | .block id b, env, H, K, hb, h => by
    simp only [codeB] at hb
    refine .block ((wC_soundG hS b env H _ hb h).mono fun o e h' hq => ?_)
    cases o with
    | normal => exact hq
    | exit i => exact hq
    | ret => exact hq
  | .loop b, env, H, K, hb, h => h hb
  | .label _, _, _, _, _, h => by simp only [wC] at h
  | .goto _, _, _, _, _, h => by simp only [wC] at h
  | .scope _, _, _, _, _, h => by simp only [wC] at h
  | .rangeFunc .., _, _, _, _, h => by simp only [wC] at h

/-- So many rounds, in the rewriter's form. -/
def wR (S : CallR) (L : LoopR) (T : Tab) (M : Addr → Option AV) (b : Code) : Nat → List AV → Heap → (K : Out → List AV → Heap → Prop) → Tag K → Prop
  | 0, _, _, _, _ => False
  | n + 1, env, H, K, _ => wC S L T M b env H (fun o e h => match o with | .normal => wR S L T M b n e h K .mk | .exit i => K (.exit i) e h | .ret => K .ret e h) .mk

theorem wR_succ {S : CallR} {L : LoopR} {T : Tab} {M : Addr → Option AV} {b : Code} {n : Nat} {env : List AV} {H : Heap} {K : Out → List AV → Heap → Prop} {t : Tag K} :
    wR S L T M b (n + 1) env H K t = wC S L T M b env H (fun o e h => match o with | .normal => wR S L T M b n e h K .mk | .exit i => K (.exit i) e h | .ret => K .ret e h) .mk := of_eq_true (eq_true rfl)

/-- What a round hands on. -/
def Goes (I : Nat → List AV → Heap → Prop) (n : Nat) (e : List AV) (h : Heap) : Prop := ∃ m h', m < n ∧ Weak h h' ∧ I m e h'

/-- What a walk may use of calls and loops. -/
structure Walk (P : Program) (T : Tab) (M : Addr → Option AV) (S : CallR) (L : LoopR) : Prop where
  call : ∀ k args H v h, SemF P M k args H (fun v' h' => v' = v ∧ h' = h) → S k args H v h
  loop : ∀ (b : Code) (env : List AV) (H : Heap) (K : Out → List AV → Heap → Prop) (I : Nat → List AV → Heap → Prop) (n0 : Nat), I n0 env H →
    (∀ n e h, I n e h → ∀ J : List AV → Heap → Prop, (∀ m e' h' h'', m < n → Weak h' h'' → I m e' h'' → J e' h') → wC S L T M b e h (fun o e' h' => match o with | .normal => J e' h' | .exit i => K (.exit i) e' h' | .ret => K .ret e' h') .mk) → L (.loop b) env H K
  rounds : ∀ n b env H K, wR S L T M b n env H K .mk → L (.loop b) env H K
  weak : ∀ (b : Code) (env : List AV) (H H' : Heap) (K : Out → List AV → Heap → Prop), Weak H H' → L (.loop b) env H' K → L (.loop b) env H K

theorem walk {P : Program} {T : Tab} {M : Addr → Option AV} (hS : Sound P T) : Walk P T M (callR P M) (loopG P T M) where
  call _ _ _ _ _ h := h
  loop b env H K I n0 h0 round hb := by
    have hb' : codeB T b = true := hb
    refine .loop (fun n e h => ∃ h', Weak h h' ∧ I n e h') n0 ⟨H, Weak.refl _, h0⟩ ?_
    intro n e h ⟨h', hw, hI⟩
    have := (wC_soundG hS b e h' _ hb' (round n e h' hI (fun e h => ∃ m, m < n ∧ ∃ h', Weak h h' ∧ I m e h') fun m e' h1 h2 hm hw hI => ⟨m, hm, h2, hw, hI⟩))
    intro W0 W ρ a hM hR q
    refine wp_mono (this W0 W ρ a hM (hR.weak hw) q) fun e a' W' ⟨o, env', H', ρ', h1, h2, l, q', r'⟩ => ?_
    subst h1
    cases o with
    | normal => exact ⟨.normal, env', H', ρ', rfl, h2, l, q', r'⟩
    | exit i => exact ⟨.exit i, env', H', ρ', rfl, h2, l, q', r'⟩
    | ret => exact ⟨.ret, env', H', ρ', rfl, h2, l, q', r'⟩
  rounds n b env H K h hb := by
    have hb' : codeB T b = true := hb
    refine .rounds n ?_
    induction n generalizing env H with
    | zero => exact h
    | succ n ih =>
      refine (wC_soundG hS b env H _ hb' h).mono fun o e h' hq => ?_
      cases o with
      | normal => exact ih _ _ hq
      | exit i => exact hq
      | ret => exact hq
  weak b env H H' K hw h hb := fun W0 W ρ a hM hR q => h hb W0 W ρ a hM (hR.weak hw) q

/-- A FUNCTION, by its body. -/
theorem fn_walk {P : Program} {T : Tab} {M : Addr → Option AV} (hS : Sound P T) {k : FuncId} {fn : Func} {c : Code} {args : List AV} {H : Heap} {Q : AV → Heap → Prop} (hf : P.funcs[k]? = some fn) (hname : (fn.name == "runtime.NumGoroutine") = false) (hb : fn.body = some c) (hr : codeB T c = true)
    (h : ∀ S L, Walk P T M S L → wC S L T M c (args ++ List.replicate (fn.ntmps - args.length) (.tup [])) H (fun o e h => match o with | .exit _ => False | .normal => ∃ l, resA T M e h fn.results.toList = some l ∧ Q (resultA l) h | .ret => ∃ l, resA T M e h fn.results.toList = some l ∧ Q (resultA l) h) .mk) : SemF P M k args H Q :=
  SemF.body hS hf hname hb ((wC_soundG hS c _ H _ hr (h _ _ (walk hS))).mono fun o e h' hq => by
    cases o with
    | normal => exact ⟨trivial, hq⟩
    | exit i => exact hq.elim
    | ret => exact ⟨trivial, hq⟩)

end Go.Proofs.YtnmignkabcblgaaDoor.E
