/- Part of a claim: what is to be shown of code, as one proposition that the rewriter can work out. Nothing of a program stands here. -/
import Derived.Test.YtnmignkabcblgaaDoorE21
set_option linter.unusedSimpArgs false
set_option linter.unusedVariables false
namespace Go.Proofs.YtnmignkabcblgaaDoor.E
open Go Go.RowKit

/-- What a call comes to; what is shown of a loop. (Names for them: the rewriter and the kernel are to see no program.) -/
abbrev CallR := FuncId → List AV → Heap → AV → Heap → Prop
abbrev LoopR := Code → List AV → Heap → (Out → List AV → Heap → Prop) → Prop

/-- What is tagged so stays as it is until its turn comes: the rewriter leaves it alone. -/
inductive Tag {α : Type} (a : α) : Type
  | mk

/-- A call that comes to one thing. -/
def Does (S : CallR) (k : FuncId) (args : List AV) (H : Heap) (K : AV → Heap → Prop) (_ : Tag K) : Prop :=
  ∃ v h, S k args H v h ∧ K v h

theorem Does.of {S : CallR} {k : FuncId} {args : List AV} {H : Heap} {K : AV → Heap → Prop} {t : Tag K} (v : AV) (h : Heap) (h1 : S k args H v h) (h2 : K v h) : Does S k args H K t := ⟨v, h, h1, h2⟩

def wOp (S : CallR) (T : Tab) (M : Addr → Option AV) (o : Op) (env : List AV) (H : Heap) (K : AV → Heap → Prop) (_ : Tag K) : Prop :=
  match o with
  | .call { callee := .value f, args, .. } =>
    match opv env f with
    | .func k => Does S k (args.toList.map (opv env)) H K .mk
    | _ => False
  | op => match evOp T M op (opv env) H with
    | some (v, h) => K v h
    | none => False

def wOps (S : CallR) (T : Tab) (M : Addr → Option AV) (ops : Array Oper) : List Oper → List AV → Heap → (K : List AV → Heap → Prop) → Tag K → Prop
  | [], env, H, K, _ => K env H
  | o :: os, env, H, K, _ =>
    match wantedA ops env o with
    | some true => wOp S T M o.op env H (fun v h => wOps S T M ops os (putA env o.dst v) h K .mk) .mk
    | some false => wOps S T M ops os (putA env o.dst (.tup [])) H K .mk
    | none => False

def wC (S : CallR) (L : LoopR) (T : Tab) (M : Addr → Option AV) : Code → List AV → Heap → (K : Out → List AV → Heap → Prop) → Tag K → Prop
  | .skip, env, H, K, _ => K .normal env H
  | .exit id, env, H, K, _ => K (.exit id) env H
  | .ret, env, H, K, _ => K .ret env H
  | .region _ ops _, env, H, K, _ => wOps S T M ops ops.toList env H (K .normal) .mk
  | .seq a b, env, H, K, _ => wC S L T M a env H (fun o e h => match o with | .normal => wC S L T M b e h K .mk | .exit i => K (.exit i) e h | .ret => K .ret e h) .mk
  | .cond c a b, env, H, K, _ =>
    match opv env c with
    | .bool true => wC S L T M a env H K .mk
    | .bool false => wC S L T M b env H K .mk
    | _ => False
  | .block id b, env, H, K, _ => wC S L T M b env H (fun o e h => match o with | .normal => K .normal e h | .exit i => if i = id then K .normal e h else K (.exit i) e h | .ret => K .ret e h) .mk
  | .loop b, env, H, K, _ => L (.loop b) env H K
  | _, _, _, _, _ => False

section
variable {S : CallR} {L : LoopR} {T : Tab} {M : Addr → Option AV} {env : List AV} {H : Heap} {K : Out → List AV → Heap → Prop} {KO : List AV → Heap → Prop} {KV : AV → Heap → Prop} {t : Tag K} {tO : Tag KO} {tV : Tag KV}

theorem wC_skip : wC S L T M .skip env H K t = K .normal env H := of_eq_true (eq_true rfl)
theorem wC_exit {id : Nat} : wC S L T M (.exit id) env H K t = K (.exit id) env H := of_eq_true (eq_true rfl)
theorem wC_ret : wC S L T M .ret env H K t = K .ret env H := of_eq_true (eq_true rfl)
theorem wC_region {id : Nat} {ops : Array Oper} {d : Bool} : wC S L T M (.region id ops d) env H K t = wOps S T M ops ops.toList env H (K .normal) .mk := of_eq_true (eq_true rfl)
theorem wC_seq {a b : Code} : wC S L T M (.seq a b) env H K t = wC S L T M a env H (fun o e h => match o with | .normal => wC S L T M b e h K .mk | .exit i => K (.exit i) e h | .ret => K .ret e h) .mk := of_eq_true (eq_true rfl)
theorem wC_cond {c : Operand} {a b : Code} : wC S L T M (.cond c a b) env H K t = (match opv env c with | .bool true => wC S L T M a env H K .mk | .bool false => wC S L T M b env H K .mk | _ => False) := of_eq_true (eq_true rfl)
theorem wC_block {id : Nat} {b : Code} : wC S L T M (.block id b) env H K t = wC S L T M b env H (fun o e h => match o with | .normal => K .normal e h | .exit i => if i = id then K .normal e h else K (.exit i) e h | .ret => K .ret e h) .mk := of_eq_true (eq_true rfl)
theorem wC_loop {b : Code} : wC S L T M (.loop b) env H K t = L (.loop b) env H K := of_eq_true (eq_true rfl)
theorem wOps_nil {ops : Array Oper} : wOps S T M ops [] env H KO tO = KO env H := of_eq_true (eq_true rfl)
theorem wOps_cons {ops : Array Oper} {o : Oper} {os : List Oper} : wOps S T M ops (o :: os) env H KO tO = (match wantedA ops env o with
    | some true => wOp S T M o.op env H (fun v h => wOps S T M ops os (putA env o.dst v) h KO .mk) .mk
    | some false => wOps S T M ops os (putA env o.dst (.tup [])) H KO .mk
    | none => False) := of_eq_true (eq_true rfl)
theorem wOp_call {f : Operand} {args : Array Operand} {ats : Array TypeId} : wOp S T M (.call { callee := .value f, args := args, argTypes := ats }) env H KV tV = (match opv env f with | .func k => Does S k (args.toList.map (opv env)) H KV .mk | _ => False) := of_eq_true (eq_true rfl)

def isCallV : Op → Bool
  | .call { callee := .value _, .. } => true
  | _ => false

theorem wOp_op {o : Op} (h : isCallV o = false) : wOp S T M o env H KV tV = (match evOp T M o (opv env) H with | some (v, h) => KV v h | none => False) := by
  unfold wOp
  split
  · simp [isCallV] at h
  · rfl

theorem wOp_move {x : Operand} : wOp S T M (.move x) env H KV tV = (match evOp T M (.move x) (opv env) H with | some (v, h) => KV v h | none => False) := wOp_op rfl
theorem wOp_assign {x : Operand} : wOp S T M (.assign x) env H KV tV = (match evOp T M (.assign x) (opv env) H with | some (v, h) => KV v h | none => False) := wOp_op rfl
theorem wOp_pick {c a b : Operand} : wOp S T M (.pick c a b) env H KV tV = (match evOp T M (.pick c a b) (opv env) H with | some (v, h) => KV v h | none => False) := wOp_op rfl
theorem wOp_alloc {t : TypeId} : wOp S T M (.alloc t) env H KV tV = (match evOp T M (.alloc t) (opv env) H with | some (v, h) => KV v h | none => False) := wOp_op rfl
theorem wOp_box {t : TypeId} {x : Operand} : wOp S T M (.box t x) env H KV tV = (match evOp T M (.box t x) (opv env) H with | some (v, h) => KV v h | none => False) := wOp_op rfl
theorem wOp_build {t : TypeId} {p : Array (Nat × Operand)} : wOp S T M (.build t p) env H KV tV = (match evOp T M (.build t p) (opv env) H with | some (v, h) => KV v h | none => False) := wOp_op rfl
theorem wOp_buildSlice {t : TypeId} {n : Nat} {p : Array (Nat × Operand)} : wOp S T M (.buildSlice t n p) env H KV tV = (match evOp T M (.buildSlice t n p) (opv env) H with | some (v, h) => KV v h | none => False) := wOp_op rfl
theorem wOp_load {t : TypeId} {x : Operand} : wOp S T M (.load t x) env H KV tV = (match evOp T M (.load t x) (opv env) H with | some (v, h) => KV v h | none => False) := wOp_op rfl
theorem wOp_store {t : TypeId} {x y : Operand} : wOp S T M (.store t x y) env H KV tV = (match evOp T M (.store t x y) (opv env) H with | some (v, h) => KV v h | none => False) := wOp_op rfl
theorem wOp_nilCheck {x : Operand} : wOp S T M (.nilCheck x) env H KV tV = (match evOp T M (.nilCheck x) (opv env) H with | some (v, h) => KV v h | none => False) := wOp_op rfl
theorem wOp_binOp {o : BinOp} {t : TypeId} {x y : Operand} {u : TypeId} : wOp S T M (.binOp o t x y u) env H KV tV = (match evOp T M (.binOp o t x y u) (opv env) H with | some (v, h) => KV v h | none => False) := wOp_op rfl
theorem wOp_unOp {o : UnOp} {t : TypeId} {x : Operand} : wOp S T M (.unOp o t x) env H KV tV = (match evOp T M (.unOp o t x) (opv env) H with | some (v, h) => KV v h | none => False) := wOp_op rfl
theorem wOp_convert {s t : TypeId} {x : Operand} : wOp S T M (.convert s t x) env H KV tV = (match evOp T M (.convert s t x) (opv env) H with | some (v, h) => KV v h | none => False) := wOp_op rfl
theorem wOp_makeInterface {t : TypeId} {x : Operand} : wOp S T M (.makeInterface t x) env H KV tV = (match evOp T M (.makeInterface t x) (opv env) H with | some (v, h) => KV v h | none => False) := wOp_op rfl
theorem wOp_makeSlice {t : TypeId} {x y : Operand} : wOp S T M (.makeSlice t x y) env H KV tV = (match evOp T M (.makeSlice t x y) (opv env) H with | some (v, h) => KV v h | none => False) := wOp_op rfl
theorem wOp_slice {t : TypeId} {x : Operand} {l h m : Option Operand} : wOp S T M (.slice t x l h m) env H KV tV = (match evOp T M (.slice t x l h m) (opv env) H with | some (v, h) => KV v h | none => False) := wOp_op rfl
theorem wOp_fieldAddr {t : TypeId} {x : Operand} {i : Nat} : wOp S T M (.fieldAddr t x i) env H KV tV = (match evOp T M (.fieldAddr t x i) (opv env) H with | some (v, h) => KV v h | none => False) := wOp_op rfl
theorem wOp_field {t : TypeId} {x : Operand} {i : Nat} : wOp S T M (.field t x i) env H KV tV = (match evOp T M (.field t x i) (opv env) H with | some (v, h) => KV v h | none => False) := wOp_op rfl
theorem wOp_indexAddr {t : TypeId} {x i : Operand} : wOp S T M (.indexAddr t x i) env H KV tV = (match evOp T M (.indexAddr t x i) (opv env) H with | some (v, h) => KV v h | none => False) := wOp_op rfl
theorem wOp_index {t : TypeId} {x i : Operand} : wOp S T M (.index t x i) env H KV tV = (match evOp T M (.index t x i) (opv env) H with | some (v, h) => KV v h | none => False) := wOp_op rfl
theorem wOp_extract {x : Operand} {i : Nat} : wOp S T M (.extract x i) env H KV tV = (match evOp T M (.extract x i) (opv env) H with | some (v, h) => KV v h | none => False) := wOp_op rfl
theorem wOp_range {t : TypeId} {x : Operand} : wOp S T M (.range t x) env H KV tV = (match evOp T M (.range t x) (opv env) H with | some (v, h) => KV v h | none => False) := wOp_op rfl
theorem wOp_next {x : Operand} {s : Bool} : wOp S T M (.next x s) env H KV tV = (match evOp T M (.next x s) (opv env) H with | some (v, h) => KV v h | none => False) := wOp_op rfl
theorem wOp_builtin {b : Builtin} {args : Array Operand} {ats : Array TypeId} : wOp S T M (.call { callee := .builtin b, args := args, argTypes := ats }) env H KV tV = (match evOp T M (.call { callee := .builtin b, args := args, argTypes := ats }) (opv env) H with | some (v, h) => KV v h | none => False) := wOp_op rfl

end

theorem putA_some (env : List AV) (d : Tmp) (v : AV) : putA env (some d) v = env.set d v := of_eq_true (eq_true rfl)
theorem putA_none (env : List AV) (v : AV) : putA env none v = env := of_eq_true (eq_true rfl)

/-- The calls and loops of a program. -/
def callR (P : Program) (M : Addr → Option AV) : CallR := fun k args H v h => SemF P M k args H fun v' h' => v' = v ∧ h' = h
def loopR (P : Program) (M : Addr → Option AV) : LoopR := fun c env H K => SemC P M c env H K

theorem wOp_sound {P : Program} {T : Tab} {M : Addr → Option AV} {o : Oper} {env : List AV} {H : Heap} {K : AV → Heap → Prop} (h : wOp (callR P M) T M o.op env H K .mk) : ∃ v h', StepD P T M o env H v h' ∧ K v h' := by
  unfold wOp at h
  unfold StepD
  split at h
  · rename_i f args ats ho
    have hc : callOf o.op = some (f, args.toList) := by rw [ho]; rfl
    simp only [hc]
    split at h
    · rename_i k hk
      obtain ⟨v, h', h1, h2⟩ := h
      exact ⟨v, h', ⟨k, hk, h1⟩, h2⟩
    · exact h.elim
  · rename_i hno
    have hc : callOf o.op = none := by
      unfold callOf
      split
      · rename_i f args ats ho; exact absurd ho (hno f args ats)
      · rfl
    simp only [hc]
    split at h
    · rename_i v h' he; exact ⟨v, h', he, h⟩
    · exact h.elim

theorem wOps_sound {P : Program} {T : Tab} {M : Addr → Option AV} {ops : Array Oper} : ∀ (os : List Oper) (env : List AV) (H : Heap) (K : List AV → Heap → Prop), wOps (callR P M) T M ops os env H K .mk → ∃ env' H', RunD P T M ops os env H env' H' ∧ K env' H'
  | [], env, H, K, h => ⟨env, H, ⟨rfl, rfl⟩, h⟩
  | o :: os, env, H, K, h => by
    simp only [wOps] at h
    split at h
    · rename_i hw
      obtain ⟨v, h1, hs, hk⟩ := wOp_sound h
      obtain ⟨env', H', hr, hq⟩ := wOps_sound os _ _ _ hk
      exact ⟨env', H', ⟨v, h1, .inl ⟨hw, hs⟩, hr⟩, hq⟩
    · rename_i hw
      obtain ⟨env', H', hr, hq⟩ := wOps_sound os _ _ _ h
      exact ⟨env', H', ⟨.tup [], H, .inr ⟨hw, rfl, rfl⟩, hr⟩, hq⟩
    · exact h.elim

theorem wC_sound {P : Program} {T : Tab} {M : Addr → Option AV} (hS : Sound P T) : ∀ (c : Code) (env : List AV) (H : Heap) (K : Out → List AV → Heap → Prop), codeB T c = true → wC (callR P M) (loopR P M) T M c env H K .mk → SemC P M c env H K
  | .skip, env, H, K, _, h => .skip h
  | .exit id, env, H, K, _, h => .exit h
  | .ret, env, H, K, _, h => .ret h
  | .region id ops d, env, H, K, hb, h => by
    obtain ⟨env', H', hr, hq⟩ := wOps_sound _ _ _ _ h
    exact .region hS hb hr hq
  | .seq a b, env, H, K, hb, h => by
    simp only [codeB, Bool.and_eq_true] at hb
    refine .seq ((wC_sound hS a env H _ hb.1 h).mono fun o e h' hq => ?_)
    cases o with
    | normal => exact wC_sound hS b e h' K hb.2 hq
    | exit i => exact hq
    | ret => exact hq
  | .cond c a b, env, H, K, hb, h => by
    simp only [codeB, Bool.and_eq_true] at hb
    simp only [wC] at h
    split at h
    · rename_i he; exact .cond true he (wC_sound hS a env H K hb.1 h)
    · rename_i he; exact .cond false he (wC_sound hS b env H K hb.2 h)
    · exact h.elim
  | .block id b, env, H, K, hb, h => by
    simp only [codeB] at hb
    refine .block ((wC_sound hS b env H _ hb h).mono fun o e h' hq => ?_)
    cases o with
    | normal => exact hq
    | exit i => exact hq
    | ret => exact hq
  | .loop b, env, H, K, _, h => h
  | .label _, _, _, _, _, h => by simp only [wC] at h
  | .goto _, _, _, _, _, h => by simp only [wC] at h
  | .scope _, _, _, _, _, h => by simp only [wC] at h
  | .rangeFunc .., _, _, _, _, h => by simp only [wC] at h

/-- A FUNCTION, by its body. -/
theorem fn_sound {P : Program} {T : Tab} {M : Addr → Option AV} (hS : Sound P T) {k : FuncId} {fn : Func} {c : Code} {args : List AV} {H : Heap} {Q : AV → Heap → Prop} (hf : P.funcs[k]? = some fn) (hname : (fn.name == "runtime.NumGoroutine") = false) (hb : fn.body = some c) (hr : codeB T c = true)
    (h : ∀ S L, (∀ k args H v h, SemF P M k args H (fun v' h' => v' = v ∧ h' = h) → S k args H v h) → (∀ c env H K, SemC P M c env H K → L c env H K) → wC S L T M c (args ++ List.replicate (fn.ntmps - args.length) (.tup [])) H (fun o e h => match o with | .exit _ => False | .normal => ∃ l, resA T M e h fn.results.toList = some l ∧ Q (resultA l) h | .ret => ∃ l, resA T M e h fn.results.toList = some l ∧ Q (resultA l) h) .mk) : SemF P M k args H Q :=
  SemF.body hS hf hname hb ((wC_sound hS c _ H _ hr (h (callR P M) (loopR P M) (fun _ _ _ _ _ h => h) (fun _ _ _ _ h => h))).mono fun o e h' hq => by
    cases o with
    | normal => exact ⟨trivial, hq⟩
    | exit i => exact hq.elim
    | ret => exact ⟨trivial, hq⟩)

end Go.Proofs.YtnmignkabcblgaaDoor.E
