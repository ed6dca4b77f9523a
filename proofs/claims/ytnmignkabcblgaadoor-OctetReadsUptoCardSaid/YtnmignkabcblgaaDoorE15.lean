/- Part of a claim: a region's operations in whatever order its edges allow come to what they come to in the text's order. Nothing of a program stands here. -/
import Derived.Test.YtnmignkabcblgaaDoorE14
import Derived.Orders
set_option linter.unusedSimpArgs false
set_option linter.unusedVariables false
namespace Go.Proofs.YtnmignkabcblgaaDoor.E
open Go Go.RowKit

/-- What is asked of a call: the machine either enters a function, which returns, or has the result at once. -/
def CallsF (P : Program) (k : FuncId) (args : Array Value) (W : World) (R : Value → World → Prop) : Prop :=
  ((callFunc k args).run P W = .ok (.enter k args) W ∧ Calls P k args W fun | .returned v, W' => R v W' | _, _ => False) ∨
  ∃ cv W', (callFunc k args).run P W = .ok (.value cv) W' ∧ R cv W'

def SemF (P : Program) (M : Addr → Option AV) (k : FuncId) (args : List AV) (H : Heap) (Q : AV → Heap → Prop) : Prop :=
  ∀ (W0 W : World) (ρ : Asg) (cargs : Array Value), MOK M W0 → Rel ρ H W0 W → VRs ρ args cargs.toList →
    CallsF P k cargs W fun cv W' => ∃ v H' ρ', Q v H' ∧ Le ρ ρ' ∧ VR ρ' v cv ∧ Rel ρ' H' W0 W'

theorem CallsF.mono {P : Program} {k : FuncId} {args : Array Value} {W : World} {R R' : Value → World → Prop} (h : CallsF P k args W R) (hr : ∀ v w, R v w → R' v w) : CallsF P k args W R' := by
  rcases h with ⟨h1, h2⟩ | ⟨cv, W', h1, h2⟩
  · exact .inl ⟨h1, h2.mono fun e w' he => by cases e <;> first | exact hr _ _ he | exact he⟩
  · exact .inr ⟨cv, W', h1, hr _ _ h2⟩

theorem SemF.mono {P : Program} {M : Addr → Option AV} {k : FuncId} {args : List AV} {H : Heap} {Q Q' : AV → Heap → Prop} (h : SemF P M k args H Q) (hq : ∀ v H', Q v H' → Q' v H') : SemF P M k args H Q' :=
  fun W0 W ρ cargs hM hR ha => (h W0 W ρ cargs hM hR ha).mono fun _ _ ⟨v, H', ρ', q, rest⟩ => ⟨v, H', ρ', hq _ _ q, rest⟩

/-- The function that an operation calls, and its arguments. -/
def callOf : Op → Option (Operand × List Operand)
  | .call { callee := .value f, args, .. } => some (f, args.toList)
  | _ => none

/-- One operation that comes to one thing alone. -/
def StepD (P : Program) (T : Tab) (M : Addr → Option AV) (o : Oper) (env : List AV) (H : Heap) (v : AV) (H' : Heap) : Prop :=
  match callOf o.op with
  | some (f, args) => ∃ k, opv env f = .func k ∧ SemF P M k (args.map (opv env)) H fun v' H'' => v' = v ∧ H'' = H'
  | none => evOp T M o.op (opv env) H = some (v, H')

/-- With its guard. -/
def StepG (P : Program) (T : Tab) (M : Addr → Option AV) (ops : Array Oper) (o : Oper) (env : List AV) (H : Heap) (v : AV) (H' : Heap) : Prop :=
  (wantedA ops env o = some true ∧ StepD P T M o env H v H') ∨ (wantedA ops env o = some false ∧ v = .tup [] ∧ H' = H)

def RunD (P : Program) (T : Tab) (M : Addr → Option AV) (ops : Array Oper) : List Oper → List AV → Heap → List AV → Heap → Prop
  | [], env, H, env', H' => env' = env ∧ H' = H
  | o :: os, env, H, env', H' => ∃ v H1, StepG P T M ops o env H v H1 ∧ RunD P T M ops os (putA env o.dst v) H1 env' H'

/-- The temporaries that an operation looks at. -/
def tmpOf : Operand → Option Tmp
  | .tmp t => some t
  | _ => none

def guardTmp (ops : Array Oper) (o : Oper) : List Tmp :=
  match o.guard with
  | some (j, _) => ((ops[j]?).bind (·.dst)).toList
  | none => []

def looks (ops : Array Oper) (o : Oper) : List Tmp := o.op.operands.toList.filterMap tmpOf ++ guardTmp ops o

/-- Does an operation turn the heap (2), hang on it (1), or neither (0)? -/
def heapKind (T : Tab) : Op → Nat
  | .move _ | .assign _ | .pick .. | .build .. | .nilCheck _ | .unOp .. | .field .. | .index .. | .extract .. | .makeInterface .. | .binOp .. => 0
  | .convert s d _ =>
    match T s, T d with
    | some i, some j => match i.und, j.und with
      | .slice _, _ | _, .slice _ => 2
      | _, _ => 0
    | _, _ => 2
  | .slice t .. =>
    match T t with
    | some i => match i.und with
      | .slice _ | .string => 0
      | _ => 1
    | none => 1
  | .load .. | .fieldAddr .. | .indexAddr .. => 1
  | .call { callee := .builtin b, .. } => match b with
    | .len | .cap | .min | .max | .real | .imag | .complex => 0
    | _ => 2
  | _ => 2

def apartB (T : Tab) (ops : Array Oper) (x y : Oper) : Bool :=
  (match x.dst with | some d => !(looks ops y).contains d && y.dst != some d | none => true) &&
  (match y.dst with | some d => !(looks ops x).contains d | none => true) &&
  !(heapKind T x.op == 2 && heapKind T y.op != 0) && !(heapKind T y.op == 2 && heapKind T x.op != 0)

def noSelectB : Op → Bool
  | .select .. => false
  | _ => true

/-- What stands ahead of an operation by its edges, as bits. -/
def maskOf (l : List Nat) (o : Oper) : Nat :=
  o.after.toList.foldl (fun m e => if Region.binds .any e then m ||| (1 <<< e.on) ||| l.getD e.on 0 else m) 0

def masks : List Oper → List Nat → List Nat
  | [], l => l
  | o :: os, l => masks os (l ++ [maskOf l o])

/-- May the operations be taken in the text's order? -/
def regB (T : Tab) (ops : Array Oper) : Bool :=
  (ops.toList.zipIdx.all fun p => p.1.after.toList.all fun e => !Region.binds .any e || decide (e.on < p.2)) &&
  (ops.toList.zipIdx.all fun q => ops.toList.zipIdx.all fun p => !decide (p.2 < q.2) || ((masks ops.toList []).getD q.2 0).testBit p.2 || apartB T ops p.1 q.1)

/-! ### What an operation hangs on -/

theorem map_some {x : Option AV} {z : AV} (h : x = some z) (H : Heap) : x.map (fun v => (v, H)) = some (z, H) := by rw [h]; rfl

theorem convA_pure {T : Tab} {M : Addr → Option AV} {s d : TypeId} {x v : AV} {H H' H2 : Heap} {i j : TI} (hi : T s = some i) (hj : T d = some j) (h1 : ∀ e, i.und ≠ .slice e) (h2 : ∀ e, j.und ≠ .slice e)
    (h : convA T M H s d x = some (v, H')) : H' = H ∧ convA T M H2 s d x = some (v, H2) := by
  unfold convA at h ⊢
  simp only [hi, hj] at h ⊢
  split at h
  · cases h; exact ⟨rfl, rfl⟩
  · cases h; exact ⟨rfl, rfl⟩
  · split at h
    · split at h
      · rename_i hc; cases h; exact ⟨rfl, by simp only [hc, and_self, if_true]⟩
      · cases h
    · cases h
  · split at h
    · rename_i hc; cases h; exact ⟨rfl, by simp only [hc, if_true]⟩
    · rename_i hc
      split at h
      · cases h; exact ⟨rfl, by simp only [hc, if_false]⟩
      · cases h; exact ⟨rfl, by simp only [hc, if_false]⟩
      · split at h
        · cases h
        · rename_i hq; cases h; exact ⟨rfl, by simp only [hc, if_false, hq]; rfl⟩
  · cases h; exact ⟨rfl, rfl⟩
  · cases h; exact ⟨rfl, rfl⟩
  all_goals first | exact absurd (by assumption) (h1 _) | exact absurd (by assumption) (h2 _) | skip
  · cases h

theorem sliceA_pure {T : Tab} {t : TypeId} {i : TI} {x v : AV} {lo hi mx : Option AV} {H : Heap} (ht : T t = some i) (hu : (∃ e, i.und = .slice e) ∨ i.und = .string) (h : sliceA T H t x lo hi mx = some v) (H2 : Heap) : sliceA T H2 t x lo hi mx = some v := by
  unfold sliceA at h ⊢
  simp only [ht] at h ⊢
  rcases hu with ⟨e, hu⟩ | hu
  · simp only [hu] at h ⊢
    split at h <;> first | exact h | (simp_all; done) | cases h
  · simp only [hu] at h ⊢
    split at h <;> first | exact h | (simp_all; done) | cases h

theorem evOp_pure {T : Tab} {M : Addr → Option AV} {o : Op} {ρ : Operand → AV} {H H' : Heap} {v : AV} (hk : heapKind T o = 0) (h : evOp T M o ρ H = some (v, H')) : H' = H ∧ ∀ H2, evOp T M o ρ H2 = some (v, H2) := by
  cases o <;> simp only [heapKind] at hk <;> try (cases hk; done)
  case convert s d x =>
    simp only [evOp] at h ⊢
    split at hk
    · rename_i i j hi hj
      split at hk
      · cases hk
      · cases hk
      · rename_i n1 n2
        exact ⟨(convA_pure (H2 := H) hi hj (fun e he => n1 e he) (fun e he => n2 e he) h).1, fun H2 => (convA_pure hi hj (fun e he => n1 e he) (fun e he => n2 e he) h).2⟩
    · cases hk
  case slice t x lo hi mx =>
    simp only [evOp] at h ⊢
    obtain ⟨z, hz, h2⟩ := map_pair h
    cases h2
    refine ⟨rfl, fun H2 => map_some ?_ H2⟩
    split at hk
    · rename_i i hi
      split at hk
      · rename_i e he; exact sliceA_pure hi (.inl ⟨e, he⟩) hz H2
      · rename_i he; exact sliceA_pure hi (.inr he) hz H2
      · cases hk
    · cases hk
  case call c =>
    obtain ⟨callee, args, ats⟩ := c
    cases callee <;> simp only at hk <;> try (cases hk; done)
    rename_i b
    simp only [evOp, biA] at h ⊢
    split at h <;> (try simp only at hk) <;> first
      | (cases hk; done)
      | (obtain ⟨z, hz, h2⟩ := map_pair h; cases h2; exact ⟨rfl, fun H2 => map_some hz H2⟩)
      | (cases h; done)
      | (cases h; exact ⟨rfl, fun H2 => rfl⟩)
      | (split at h
         · rename_i hc; cases h; exact ⟨rfl, fun H2 => by simp only [hc, if_true]⟩
         · cases h)
  all_goals
    simp only [evOp] at h ⊢
    first
      | (cases h; exact ⟨rfl, fun H2 => rfl⟩)
      | (obtain ⟨z, hz, h2⟩ := map_pair h; cases h2; exact ⟨rfl, fun H2 => map_some hz H2⟩)
      | (split at h <;> first | (cases h; exact ⟨rfl, fun H2 => rfl⟩) | (cases h; done) | (split at h <;> first | (cases h; done) | (cases h; exact ⟨rfl, fun H2 => rfl⟩)))

theorem evOp_reads {T : Tab} {M : Addr → Option AV} {o : Op} {ρ : Operand → AV} {H H' : Heap} {v : AV} (hk : heapKind T o ≤ 1) (h : evOp T M o ρ H = some (v, H')) : H' = H := by
  by_cases h0 : heapKind T o = 0
  · exact (evOp_pure h0 h).1
  · have h1 : heapKind T o = 1 := by omega
    cases o <;> simp only [heapKind] at h1 <;> try (cases h1; done)
    case convert s d x =>
      split at h1
      · split at h1 <;> cases h1
      · cases h1
    case slice t x lo hi mx =>
      simp only [evOp] at h
      obtain ⟨z, hz, h2⟩ := map_pair h; cases h2; rfl
    case call c =>
      obtain ⟨callee, args, ats⟩ := c
      cases callee <;> simp only at h1 <;> try (cases h1; done)
      split at h1 <;> cases h1
    all_goals
      simp only [evOp] at h
      obtain ⟨z, hz, h2⟩ := map_pair h; cases h2; rfl

theorem evOp_congr {T : Tab} {M : Addr → Option AV} {o : Op} {ρ ρ' : Operand → AV} (h : ∀ x ∈ o.operands.toList, ρ x = ρ' x) (H : Heap) : evOp T M o ρ H = evOp T M o ρ' H := by
  cases o <;> simp only [evOp] <;> simp only [Op.operands] at h
  case build t parts =>
    have : (parts.toList.map fun p => (p.1, ρ p.2)) = (parts.toList.map fun p => (p.1, ρ' p.2)) := List.map_congr_left fun p hp => by
      rw [h p.2 (by simp; exact ⟨p.1, by simpa using hp⟩)]
    rw [this]
  case buildSlice t len parts =>
    have : (parts.toList.map fun p => (p.1, ρ p.2)) = (parts.toList.map fun p => (p.1, ρ' p.2)) := List.map_congr_left fun p hp => by
      rw [h p.2 (by simp; exact ⟨p.1, by simpa using hp⟩)]
    rw [this]
  case slice t x lo hi mx =>
    have e1 : ρ x = ρ' x := h x (by simp)
    have e2 : lo.map ρ = lo.map ρ' := by cases lo with
      | none => rfl
      | some y => simp; exact h y (by simp)
    have e3 : hi.map ρ = hi.map ρ' := by cases hi with
      | none => rfl
      | some y => simp; exact h y (by simp)
    have e4 : mx.map ρ = mx.map ρ' := by cases mx with
      | none => rfl
      | some y => simp; exact h y (by simp)
    rw [e1, e2, e3, e4]
  case call c =>
    obtain ⟨callee, args, ats⟩ := c
    cases callee <;> simp only
    have : args.toList.map ρ = args.toList.map ρ' := List.map_congr_left fun x hx => h x (by simp [Call.operands]; simpa using hx)
    rw [this]
  case pick c a b =>
    rw [h c (by simp), h a (by simp), h b (by simp)]
  all_goals first
    | rfl
    | (rw [h _ (by simp)]; done)
    | (rw [h _ (by simp), h _ (by simp)]; done)
    | (simp only [h _ (List.mem_cons_self ..)]; done)
    | skip

end Go.Proofs.YtnmignkabcblgaaDoor.E
