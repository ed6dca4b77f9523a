/- Part of a claim: what is to be shown of code, as one proposition that the rewriter can work out; calls that come to more than one thing. Nothing of a program stands here. -/
import Derived.Test.YtnmignkabcblgaaDoorE27
set_option linter.unusedSimpArgs false
set_option linter.unusedVariables false
namespace Go.Proofs.YtnmignkabcblgaaDoor.E
open Go Go.RowKit

/-- What is shown of a call, of a loop. -/
abbrev CallX := FuncId → List AV → Heap → (K : AV → Heap → Prop) → Tag K → Prop
abbrev LoopX := Code → List AV → Heap → (K : Out → List AV → Heap → Prop) → Tag K → Prop

/-- A call that comes to one thing. -/
def Ex (C : CallX) : CallX := fun k args H K _ => ∃ v h, C k args H (fun v' h' => v' = v ∧ h' = h) .mk ∧ K v h

def xOp (C : CallX) (T : Tab) (M : Addr → Option AV) (o : Op) (env : List AV) (H : Heap) (K : AV → Heap → Prop) (_ : Tag K) : Prop :=
  match o with
  | .call { callee := .value f, args, .. } =>
    match opv env f with
    | .func k => C k (args.toList.map (opv env)) H K .mk
    | _ => False
  | op => match evOp T M op (opv env) H with
    | some (v, h) => K v h
    | none => False

def xOps (C : CallX) (T : Tab) (M : Addr → Option AV) (ops : Array Oper) : List Oper → List AV → Heap → (K : List AV → Heap → Prop) → Tag K → Prop
  | [], env, H, K, _ => K env H
  | o :: os, env, H, K, _ =>
    match wantedA ops env o with
    | some true => xOp C T M o.op env H (fun v h => xOps C T M ops os (putA env o.dst v) h K .mk) .mk
    | some false => xOps C T M ops os (putA env o.dst (.tup [])) H K .mk
    | none => False

def xC (C : CallX) (L : LoopX) (T : Tab) (M : Addr → Option AV) : Code → List AV → Heap → (K : Out → List AV → Heap → Prop) → Tag K → Prop
  | .skip, env, H, K, _ => K .normal env H
  | .exit id, env, H, K, _ => K (.exit id) env H
  | .ret, env, H, K, _ => K .ret env H
  | .region _ ops true, env, H, K, _ => xOps (Ex C) T M ops ops.toList env H (K .normal) .mk
  | .region _ ops false, env, H, K, _ => xOps C T M ops ops.toList env H (K .normal) .mk
  | .seq a b, env, H, K, _ => xC C L T M a env H (fun o e h => match o with | .normal => xC C L T M b e h K .mk | .exit i => K (.exit i) e h | .ret => K .ret e h) .mk
  | .cond c a b, env, H, K, _ =>
    match opv env c with
    | .bool true => xC C L T M a env H K .mk
    | .bool false => xC C L T M b env H K .mk
    | _ => False
  | .block id b, env, H, K, _ => xC C L T M b env H (fun o e h => match o with | .normal => K .normal e h | .exit i => if i = id then K .normal e h else K (.exit i) e h | .ret => K .ret e h) .mk
  | .loop b, env, H, K, _ => L (.loop b) env H K .mk
  | _, _, _, _, _ => False

/-- So many rounds. -/
def xR (C : CallX) (L : LoopX) (T : Tab) (M : Addr → Option AV) (b : Code) : Nat → List AV → Heap → (K : Out → List AV → Heap → Prop) → Tag K → Prop
  | 0, _, _, _, _ => False
  | n + 1, env, H, K, _ => xC C L T M b env H (fun o e h => match o with | .normal => xR C L T M b n e h K .mk | .exit i => K (.exit i) e h | .ret => K .ret e h) .mk

section
variable {C : CallX} {L : LoopX} {T : Tab} {M : Addr → Option AV} {env : List AV} {H : Heap} {K : Out → List AV → Heap → Prop} {KO : List AV → Heap → Prop} {KV : AV → Heap → Prop} {t : Tag K} {tO : Tag KO} {tV : Tag KV}

theorem xC_skip : xC C L T M .skip env H K t = K .normal env H := of_eq_true (eq_true rfl)
theorem xC_exit {id : Nat} : xC C L T M (.exit id) env H K t = K (.exit id) env H := of_eq_true (eq_true rfl)
theorem xC_ret : xC C L T M .ret env H K t = K .ret env H := of_eq_true (eq_true rfl)
theorem xC_drawn {id : Nat} {ops : Array Oper} : xC C L T M (.region id ops true) env H K t = xOps (Ex C) T M ops ops.toList env H (K .normal) .mk := of_eq_true (eq_true rfl)
theorem xC_text {id : Nat} {ops : Array Oper} : xC C L T M (.region id ops false) env H K t = xOps C T M ops ops.toList env H (K .normal) .mk := of_eq_true (eq_true rfl)
theorem xC_seq {a b : Code} : xC C L T M (.seq a b) env H K t = xC C L T M a env H (fun o e h => match o with | .normal => xC C L T M b e h K .mk | .exit i => K (.exit i) e h | .ret => K .ret e h) .mk := of_eq_true (eq_true rfl)
theorem xC_cond {c : Operand} {a b : Code} : xC C L T M (.cond c a b) env H K t = (match opv env c with | .bool true => xC C L T M a env H K .mk | .bool false => xC C L T M b env H K .mk | _ => False) := of_eq_true (eq_true rfl)
theorem xC_block {id : Nat} {b : Code} : xC C L T M (.block id b) env H K t = xC C L T M b env H (fun o e h => match o with | .normal => K .normal e h | .exit i => if i = id then K .normal e h else K (.exit i) e h | .ret => K .ret e h) .mk := of_eq_true (eq_true rfl)
theorem xC_loop {b : Code} : xC C L T M (.loop b) env H K t = L (.loop b) env H K .mk := of_eq_true (eq_true rfl)
theorem xR_succ {b : Code} {n : Nat} : xR C L T M b (n + 1) env H K t = xC C L T M b env H (fun o e h => match o with | .normal => xR C L T M b n e h K .mk | .exit i => K (.exit i) e h | .ret => K .ret e h) .mk := of_eq_true (eq_true rfl)
theorem xOps_nil {ops : Array Oper} : xOps C T M ops [] env H KO tO = KO env H := of_eq_true (eq_true rfl)
theorem xOps_cons {ops : Array Oper} {o : Oper} {os : List Oper} : xOps C T M ops (o :: os) env H KO tO = (match wantedA ops env o with
    | some true => xOp C T M o.op env H (fun v h => xOps C T M ops os (putA env o.dst v) h KO .mk) .mk
    | some false => xOps C T M ops os (putA env o.dst (.tup [])) H KO .mk
    | none => False) := of_eq_true (eq_true rfl)
theorem xOp_call {f : Operand} {args : Array Operand} {ats : Array TypeId} : xOp C T M (.call { callee := .value f, args := args, argTypes := ats }) env H KV tV = (match opv env f with | .func k => C k (args.toList.map (opv env)) H KV .mk | _ => False) := of_eq_true (eq_true rfl)

theorem xOp_op {o : Op} (h : isCallV o = false) : xOp C T M o env H KV tV = (match evOp T M o (opv env) H with | some (v, h) => KV v h | none => False) := by
  unfold xOp
  split
  · simp [isCallV] at h
  · rfl

theorem xOp_move {x : Operand} : xOp C T M (.move x) env H KV tV = (match evOp T M (.move x) (opv env) H with | some (v, h) => KV v h | none => False) := xOp_op rfl
theorem xOp_assign {x : Operand} : xOp C T M (.assign x) env H KV tV = (match evOp T M (.assign x) (opv env) H with | some (v, h) => KV v h | none => False) := xOp_op rfl
theorem xOp_pick {c a b : Operand} : xOp C T M (.pick c a b) env H KV tV = (match evOp T M (.pick c a b) (opv env) H with | some (v, h) => KV v h | none => False) := xOp_op rfl
theorem xOp_alloc {t : TypeId} : xOp C T M (.alloc t) env H KV tV = (match evOp T M (.alloc t) (opv env) H with | some (v, h) => KV v h | none => False) := xOp_op rfl
theorem xOp_box {t : TypeId} {x : Operand} : xOp C T M (.box t x) env H KV tV = (match evOp T M (.box t x) (opv env) H with | some (v, h) => KV v h | none => False) := xOp_op rfl
theorem xOp_build {t : TypeId} {p : Array (Nat × Operand)} : xOp C T M (.build t p) env H KV tV = (match evOp T M (.build t p) (opv env) H with | some (v, h) => KV v h | none => False) := xOp_op rfl
theorem xOp_buildSlice {t : TypeId} {n : Nat} {p : Array (Nat × Operand)} : xOp C T M (.buildSlice t n p) env H KV tV = (match evOp T M (.buildSlice t n p) (opv env) H with | some (v, h) => KV v h | none => False) := xOp_op rfl
theorem xOp_load {t : TypeId} {x : Operand} : xOp C T M (.load t x) env H KV tV = (match evOp T M (.load t x) (opv env) H with | some (v, h) => KV v h | none => False) := xOp_op rfl
theorem xOp_store {t : TypeId} {x y : Operand} : xOp C T M (.store t x y) env H KV tV = (match evOp T M (.store t x y) (opv env) H with | some (v, h) => KV v h | none => False) := xOp_op rfl
theorem xOp_nilCheck {x : Operand} : xOp C T M (.nilCheck x) env H KV tV = (match evOp T M (.nilCheck x) (opv env) H with | some (v, h) => KV v h | none => False) := xOp_op rfl
theorem xOp_binOp {o : BinOp} {t : TypeId} {x y : Operand} {u : TypeId} : xOp C T M (.binOp o t x y u) env H KV tV = (match evOp T M (.binOp o t x y u) (opv env) H with | some (v, h) => KV v h | none => False) := xOp_op rfl
theorem xOp_unOp {o : UnOp} {t : TypeId} {x : Operand} : xOp C T M (.unOp o t x) env H KV tV = (match evOp T M (.unOp o t x) (opv env) H with | some (v, h) => KV v h | none => False) := xOp_op rfl
theorem xOp_convert {s t : TypeId} {x : Operand} : xOp C T M (.convert s t x) env H KV tV = (match evOp T M (.convert s t x) (opv env) H with | some (v, h) => KV v h | none => False) := xOp_op rfl
theorem xOp_makeInterface {t : TypeId} {x : Operand} : xOp C T M (.makeInterface t x) env H KV tV = (match evOp T M (.makeInterface t x) (opv env) H with | some (v, h) => KV v h | none => False) := xOp_op rfl
theorem xOp_makeSlice {t : TypeId} {x y : Operand} : xOp C T M (.makeSlice t x y) env H KV tV = (match evOp T M (.makeSlice t x y) (opv env) H with | some (v, h) => KV v h | none => False) := xOp_op rfl
theorem xOp_slice {t : TypeId} {x : Operand} {l h m : Option Operand} : xOp C T M (.slice t x l h m) env H KV tV = (match evOp T M (.slice t x l h m) (opv env) H with | some (v, h) => KV v h | none => False) := xOp_op rfl
theorem xOp_fieldAddr {t : TypeId} {x : Operand} {i : Nat} : xOp C T M (.fieldAddr t x i) env H KV tV = (match evOp T M (.fieldAddr t x i) (opv env) H with | some (v, h) => KV v h | none => False) := xOp_op rfl
theorem xOp_field {t : TypeId} {x : Operand} {i : Nat} : xOp C T M (.field t x i) env H KV tV = (match evOp T M (.field t x i) (opv env) H with | some (v, h) => KV v h | none => False) := xOp_op rfl
theorem xOp_indexAddr {t : TypeId} {x i : Operand} : xOp C T M (.indexAddr t x i) env H KV tV = (match evOp T M (.indexAddr t x i) (opv env) H with | some (v, h) => KV v h | none => False) := xOp_op rfl
theorem xOp_index {t : TypeId} {x i : Operand} : xOp C T M (.index t x i) env H KV tV = (match evOp T M (.index t x i) (opv env) H with | some (v, h) => KV v h | none => False) := xOp_op rfl
theorem xOp_extract {x : Operand} {i : Nat} : xOp C T M (.extract x i) env H KV tV = (match evOp T M (.extract x i) (opv env) H with | some (v, h) => KV v h | none => False) := xOp_op rfl
theorem xOp_range {t : TypeId} {x : Operand} : xOp C T M (.range t x) env H KV tV = (match evOp T M (.range t x) (opv env) H with | some (v, h) => KV v h | none => False) := xOp_op rfl
theorem xOp_next {x : Operand} {s : Bool} : xOp C T M (.next x s) env H KV tV = (match evOp T M (.next x s) (opv env) H with | some (v, h) => KV v h | none => False) := xOp_op rfl
theorem xOp_builtin {b : Builtin} {args : Array Operand} {ats : Array TypeId} : xOp C T M (.call { callee := .builtin b, args := args, argTypes := ats }) env H KV tV = (match evOp T M (.call { callee := .builtin b, args := args, argTypes := ats }) (opv env) H with | some (v, h) => KV v h | none => False) := xOp_op rfl
end

/-- The calls and loops of a program. -/
def callX (P : Program) (M : Addr → Option AV) : CallX := fun k args H K _ => SemF P M k args H K
def loopX (P : Program) (T : Tab) (M : Addr → Option AV) : LoopX := fun c env H K _ => codeB T c = true → SemC P M c env H K

theorem xOp_ex {P : Program} {T : Tab} {M : Addr → Option AV} {o : Oper} {env : List AV} {H : Heap} {K : AV → Heap → Prop} (h : xOp (Ex (callX P M)) T M o.op env H K .mk) : ∃ v h', StepD P T M o env H v h' ∧ K v h' := by
  unfold xOp at h
  unfold StepD
  split at h
  · rename_i f args ats ho
    have hc : callOf o.op = some (f, args.toList) := by rw [ho]; rfl
    simp only [hc]
    split at h
    · rename_i k hk
      obtain ⟨v, h', h1, h2⟩ := h
      exact ⟨v, h', ⟨k, hk, h1⟩, h2⟩
    · exact h.elim
  · rename_i hno
    have hc : callOf o.op = none := by
      unfold callOf
      split
      · rename_i f args ats ho; exact absurd ho (hno f args ats)
      · rfl
    simp only [hc]
    split at h
    · rename_i v h' he; exact ⟨v, h', he, h⟩
    · exact h.elim

theorem xOps_ex {P : Program} {T : Tab} {M : Addr → Option AV} {ops : Array Oper} : ∀ (os : List Oper) (env : List AV) (H : Heap) (K : List AV → Heap → Prop), xOps (Ex (callX P M)) T M ops os env H K .mk → ∃ env' H', RunD P T M ops os env H env' H' ∧ K env' H'
  | [], env, H, K, h => ⟨env, H, ⟨rfl, rfl⟩, h⟩
  | o :: os, env, H, K, h => by
    simp only [xOps] at h
    split at h
    · rename_i hw
      obtain ⟨v, h1, hs, hk⟩ := xOp_ex h
      obtain ⟨env', H', hr, hq⟩ := xOps_ex os _ _ _ hk
      exact ⟨env', H', ⟨v, h1, .inl ⟨hw, hs⟩, hr⟩, hq⟩
    · rename_i hw
      obtain ⟨env', H', hr, hq⟩ := xOps_ex os _ _ _ h
      exact ⟨env', H', ⟨.tup [], H, .inr ⟨hw, rfl, rfl⟩, hr⟩, hq⟩
    · exact h.elim

theorem xOp_q {P : Program} {T : Tab} {M : Addr → Option AV} {o : Oper} {env : List AV} {H : Heap} {K : AV → Heap → Prop} (h : xOp (callX P M) T M o.op env H K .mk) : StepQ P T M o env H K := by
  unfold xOp at h
  unfold StepQ
  split at h
  · rename_i f args ats ho
    have hc : callOf o.op = some (f, args.toList) := by rw [ho]; rfl
    simp only [hc]
    split at h
    · rename_i k hk
      exact ⟨k, hk, h⟩
    · exact h.elim
  · rename_i hno
    have hc : callOf o.op = none := by
      unfold callOf
      split
      · rename_i f args ats ho; exact absurd ho (hno f args ats)
      · rfl
    simp only [hc]
    split at h
    · rename_i v h' he; exact ⟨v, h', he, h⟩
    · exact h.elim

theorem StepQ.mono {P : Program} {T : Tab} {M : Addr → Option AV} {o : Oper} {env : List AV} {H : Heap} {Q Q' : AV → Heap → Prop} (h : StepQ P T M o env H Q) (hq : ∀ v h, Q v h → Q' v h) : StepQ P T M o env H Q' := by
  unfold StepQ at h ⊢
  cases hc : callOf o.op with
  | some fa =>
    simp only [hc] at h ⊢
    obtain ⟨k, hk, h⟩ := h
    exact ⟨k, hk, h.mono hq⟩
  | none =>
    simp only [hc] at h ⊢
    obtain ⟨v, h', he, h⟩ := h
    exact ⟨v, h', he, hq _ _ h⟩

theorem xOps_q {P : Program} {T : Tab} {M : Addr → Option AV} {ops : Array Oper} : ∀ (os : List Oper) (env : List AV) (H : Heap) (K : List AV → Heap → Prop), xOps (callX P M) T M ops os env H K .mk → RunQ P T M ops os env H K
  | [], env, H, K, h => h
  | o :: os, env, H, K, h => by
    simp only [xOps] at h
    unfold RunQ
    split at h
    · rename_i hw
      exact .inl ⟨hw, (xOp_q h).mono fun v h' hk => xOps_q os _ _ _ hk⟩
    · rename_i hw
      exact .inr ⟨hw, xOps_q os _ _ _ h⟩
    · exact h.elim

theorem xC_sound {P : Program} {T : Tab} {M : Addr → Option AV} (hS : Sound P T) : ∀ (c : Code) (env : List AV) (H : Heap) (K : Out → List AV → Heap → Prop), codeB T c = true → xC (callX P M) (loopX P T M) T M c env H K .mk → SemC P M c env H K
  | .skip, env, H, K, _, h => .skip h
  | .exit id, env, H, K, _, h => .exit h
  | .ret, env, H, K, _, h => .ret h
  | .region id ops true, env, H, K, hb, h => by
    obtain ⟨env', H', hr, hq⟩ := xOps_ex _ _ _ _ h
    exact .region hS hb hr hq
  | .region id ops false, env, H, K, hb, h => .text hS (xOps_q _ _ _ _ h)
  | .seq a b, env, H, K, hb, h => by
    simp only [codeB, Bool.and_eq_true] at hb
    refine .seq ((xC_sound hS a env H _ hb.1 h).mono fun o e h' hq => ?_)
    cases o with
    | normal => exact xC_sound hS b e h' K hb.2 hq
    | exit i => exact hq
    | ret => exact hq
  | .cond c a b, env, H, K, hb, h => by
    simp only [codeB, Bool.and_eq_true] at hb
    simp only [xC] at h
    split at h
    · rename_i he; exact .cond true he (xC_sound hS a env H K hb.1 h)
    · rename_i he; exact .cond false he (xC_sound hS b env H K hb.2 h)
    · exact h.elim
  | .block id b, env, H, K, hb, h => by
    simp only [codeB] at hb
    refine .block ((xC_sound hS b env H _ hb h).mono fun o e h' hq => ?_)
    cases o with
    | normal => exact hq
    | exit i => exact hq
    | ret => exact hq
  | .loop b, env, H, K, hb, h => h hb
  | .label _, _, _, _, _, h => by simp only [xC] at h
  | .goto _, _, _, _, _, h => by simp only [xC] at h
  | .scope _, _, _, _, _, h => by simp only [xC] at h
  | .rangeFunc .., _, _, _, _, h => by simp only [xC] at h

/-- What a walk may use of calls and loops. -/
structure Wk (P : Program) (T : Tab) (M : Addr → Option AV) (C : CallX) (L : LoopX) : Prop where
  call : ∀ {k : FuncId} {args : List AV} {H : Heap} {K Q : AV → Heap → Prop} {t : Tag K}, SemF P M k args H Q → (∀ v h, Q v h → K v h) → C k args H K t
  one : ∀ {k : FuncId} {args : List AV} {H H' : Heap} {K : AV → Heap → Prop} {t : Tag K} {v : AV}, SemF P M k args H (fun v' h' => v' = v ∧ h' = H') → K v H' → C k args H K t
  ex : ∀ {k : FuncId} {args : List AV} {H H' : Heap} {K : AV → Heap → Prop} {t : Tag K} {v : AV}, SemF P M k args H (fun v' h' => v' = v ∧ h' = H') → K v H' → Ex C k args H K t
  loop : ∀ (I : Nat → List AV → Heap → Prop) (n0 : Nat) {b : Code} {env : List AV} {H : Heap} {K : Out → List AV → Heap → Prop} {t : Tag K}, I n0 env H →
    (∀ n e h, I n e h → ∀ J : List AV → Heap → Prop, (∀ m e' h' h'', m < n → Weak h' h'' → I m e' h'' → J e' h') → xC C L T M b e h (fun o e' h' => match o with | .normal => J e' h' | .exit i => K (.exit i) e' h' | .ret => K .ret e' h') .mk) → L (.loop b) env H K t
  rounds : ∀ (n : Nat) {b : Code} {env : List AV} {H : Heap} {K : Out → List AV → Heap → Prop} {t : Tag K}, xR C L T M b n env H K .mk → L (.loop b) env H K t
  weak : ∀ {b : Code} {env : List AV} {H H' : Heap} {K : Out → List AV → Heap → Prop} {t t' : Tag K}, Weak H H' → L (.loop b) env H' K t' → L (.loop b) env H K t

theorem way {P : Program} {T : Tab} {M : Addr → Option AV} (hS : Sound P T) : Wk P T M (callX P M) (loopX P T M) where
  call h hq := h.mono hq
  one h hq := h.mono fun v h ⟨h1, h2⟩ => by subst h1 h2; exact hq
  ex h hq := ⟨_, _, h, hq⟩
  loop I n0 b env H K t h0 round hb := by
    have hb' : codeB T b = true := hb
    refine .loop (fun n e h => ∃ h', Weak h h' ∧ I n e h') n0 ⟨H, Weak.refl _, h0⟩ ?_
    intro n e h ⟨h', hw, hI⟩
    have := (xC_sound hS b e h' _ hb' (round n e h' hI (fun e h => ∃ m, m < n ∧ ∃ h', Weak h h' ∧ I m e h') fun m e' h1 h2 hm hw hI => ⟨m, hm, h2, hw, hI⟩))
    intro W0 W ρ a hM hR q
    refine wp_mono (this W0 W ρ a hM (hR.weak hw) q) fun e a' W' ⟨o, env', H', ρ', h1, h2, l, q', r'⟩ => ?_
    subst h1
    cases o with
    | normal => exact ⟨.normal, env', H', ρ', rfl, h2, l, q', r'⟩
    | exit i => exact ⟨.exit i, env', H', ρ', rfl, h2, l, q', r'⟩
    | ret => exact ⟨.ret, env', H', ρ', rfl, h2, l, q', r'⟩
  rounds n b env H K t h hb := by
    have hb' : codeB T b = true := hb
    refine .rounds n ?_
    clear t
    induction n generalizing env H with
    | zero => exact h
    | succ n ih =>
      refine (xC_sound hS b env H _ hb' h).mono fun o e h' hq => ?_
      cases o with
      | normal => exact ih _ _ hq
      | exit i => exact hq
      | ret => exact hq
  weak hw h hb := fun W0 W ρ a hM hR q => h hb W0 W ρ a hM (hR.weak hw) q

/-- A FUNCTION, by its body. -/
theorem fn_way {P : Program} {T : Tab} {M : Addr → Option AV} (hS : Sound P T) {k : FuncId} {fn : Func} {c : Code} {args : List AV} {H : Heap} {Q : AV → Heap → Prop} (hf : P.funcs[k]? = some fn) (hname : (fn.name == "runtime.NumGoroutine") = false) (hb : fn.body = some c) (hr : codeB T c = true)
    (h : ∀ C L, Wk P T M C L → xC C L T M c (args ++ List.replicate (fn.ntmps - args.length) (.tup [])) H (fun o e h => match o with | .exit _ => False | .normal => ∃ l, resA T M e h fn.results.toList = some l ∧ Q (resultA l) h | .ret => ∃ l, resA T M e h fn.results.toList = some l ∧ Q (resultA l) h) .mk) : SemF P M k args H Q :=
  SemF.body hS hf hname hb ((xC_sound hS c _ H _ hr (h _ _ (way hS))).mono fun o e h' hq => by
    cases o with
    | normal => exact ⟨trivial, hq⟩
    | exit i => exact hq.elim
    | ret => exact ⟨trivial, hq⟩)

end Go.Proofs.YtnmignkabcblgaaDoor.E
