/- Part of a claim: a region's operations in whatever order its edges allow come to what they come to in the text's order. Nothing of a program stands here. Part of a claim: a drawn region comes to what the text's order comes to. Nothing of a program stands here. Part of a claim: regions against the machine. Nothing of a program stands here. Part of a claim: any order of a drawn region. Nothing of a program stands here. Part of a claim: code and calls. Nothing of a program stands here. Part of a claim: what the evaluator answers is what the machine answers. Nothing of a program stands here. Part of a claim: from a run to a row: what stood before stands behind, and reads as it read. Nothing of a program stands here. Part of a claim: what is to be shown of code, as one proposition that the rewriter can work out. Nothing of a program stands here. Part of a claim: a table of pairs, out of what a row lists. Nothing of a program stands here. Part of a claim: loops in the rewriter's form; what may be forgotten of a heap. Nothing of a program stands here. Part of a claim: a call seen from the world as it stands; blocks renumbered. Nothing of a program stands here. Part of a claim: slices that are read, slices that grow; what stays as it was in a heap. Nothing of a program stands here. Part of a claim: the operations' equations by the form of their operand; numbers that fit. Nothing of a program stands here. Part of a claim: what is to be shown of code, as one proposition that the rewriter can work out; calls that come to more than one thing. Nothing of a program stands here. Part of a claim: what lies in one cell, by its form; a slice of bytes. Nothing of a program stands here. Part of a claim: a slice of elements of several cells in old memory. Nothing of a program stands here. Part of a claim: the rewriter's equations, in bundles. Nothing of a program stands here. Part of a claim: parts of a slice that is read. Nothing of a program stands here. -/
import Derived.Scope
import Derived.Test.YtaaecodkdgkjoaaDoorPEA
import Derived.Orders
import Derived.Tactics
import Derived.Deep.LoopGhost
import Derived.ProofKit
import Derived.OpenShut
import Derived.Deep.DeepHandedRow
import Derived.Lib.LaidTab
import Derived.LoopN
set_option linter.unusedSimpArgs false
set_option linter.unusedVariables false
namespace Go.Proofs.YtaaecodkdgkjoaaDoor.E
open Go Go.RowKit
variable {qt : FuncId → Bool}

/-- What is asked of a call: the machine either enters a function, which returns, or has the result at once. -/
def CallsF (P : Program) (k : FuncId) (args : Array Value) (W : World) (R : Value → World → Prop) : Prop :=
  ((callFunc k args).run P W = .ok (.enter k args) W ∧ Calls P k args W fun | .returned v, W' => R v W' | _, _ => False) ∨
  ∃ cv W', (callFunc k args).run P W = .ok (.value cv) W' ∧ R cv W'

def SemF (P : Program) (M : Addr → Option AV) (k : FuncId) (args : List AV) (H : Heap) (Q : AV → Heap → Prop) : Prop :=
  ∀ (W0 W : World) (ρ : Asg) (cargs : Array Value), MOK M W0 → Rel ρ H W0 W → VRs ρ args cargs.toList →
    CallsF P k cargs W fun cv W' => ∃ v H' ρ', Q v H' ∧ Le ρ ρ' ∧ VR ρ' v cv ∧ Rel ρ' H' W0 W'

theorem CallsF.mono {P : Program} {k : FuncId} {args : Array Value} {W : World} {R R' : Value → World → Prop} (h : CallsF P k args W R) (hr : ∀ v w, R v w → R' v w) : CallsF P k args W R' := by
  rcases h with ⟨h1, h2⟩ | ⟨cv, W', h1, h2⟩
  · exact .inl ⟨h1, h2.mono fun e w' he => by cases e <;> first | exact hr _ _ he | exact he⟩
  · exact .inr ⟨cv, W', h1, hr _ _ h2⟩

theorem SemF.mono {P : Program} {M : Addr → Option AV} {k : FuncId} {args : List AV} {H : Heap} {Q Q' : AV → Heap → Prop} (h : SemF P M k args H Q) (hq : ∀ v H', Q v H' → Q' v H') : SemF P M k args H Q' :=
  fun W0 W ρ cargs hM hR ha => (h W0 W ρ cargs hM hR ha).mono fun _ _ ⟨v, H', ρ', q, rest⟩ => ⟨v, H', ρ', hq _ _ q, rest⟩

/-- The function that an operation calls, and its arguments. -/
def callOf : Op → Option (Operand × List Operand)
  | .call { callee := .value f, args, .. } => some (f, args.toList)
  | _ => none

/-- One operation that comes to one thing alone. -/
def StepD (qt : FuncId → Bool) (P : Program) (T : Tab) (M : Addr → Option AV) (o : Oper) (env : List AV) (H : Heap) (v : AV) (H' : Heap) : Prop :=
  match callOf o.op with
  | some (f, args) => ∃ k, opv env f = .func k ∧ (SemF P M k (args.map (opv env)) H fun v' H'' => v' = v ∧ H'' = H') ∧ (qt k = true → H' = H)
  | none => evOp T M o.op (opv env) H = some (v, H')

/-- With its guard. -/
def StepG (qt : FuncId → Bool) (P : Program) (T : Tab) (M : Addr → Option AV) (ops : Array Oper) (o : Oper) (env : List AV) (H : Heap) (v : AV) (H' : Heap) : Prop :=
  (wantedA ops env o = some true ∧ StepD qt P T M o env H v H') ∨ (wantedA ops env o = some false ∧ v = .tup [] ∧ H' = H)

def RunD (qt : FuncId → Bool) (P : Program) (T : Tab) (M : Addr → Option AV) (ops : Array Oper) : List Oper → List AV → Heap → List AV → Heap → Prop
  | [], env, H, env', H' => env' = env ∧ H' = H
  | o :: os, env, H, env', H' => ∃ v H1, StepG qt P T M ops o env H v H1 ∧ RunD qt P T M ops os (putA env o.dst v) H1 env' H'

/-- The temporaries that an operation looks at. -/
def tmpOf : Operand → Option Tmp
  | .tmp t => some t
  | _ => none

def guardTmp (ops : Array Oper) (o : Oper) : List Tmp :=
  match o.guard with
  | some (j, _) => ((ops[j]?).bind (·.dst)).toList
  | none => []

def looks (ops : Array Oper) (o : Oper) : List Tmp := o.op.operands.toList.filterMap tmpOf ++ guardTmp ops o

/-- Does an operation turn the heap (2), hang on it (1), or neither (0)? -/
def heapKind0 (T : Tab) : Op → Nat
  | .move _ | .assign _ | .pick .. | .build .. | .nilCheck _ | .unOp .. | .field .. | .index .. | .extract .. | .makeInterface .. | .binOp .. => 0
  | .convert s d _ =>
    match T s, T d with
    | some i, some j => match i.und, j.und with
      | .slice _, _ | _, .slice _ => 2
      | _, _ => 0
    | _, _ => 2
  | .slice t .. =>
    match T t with
    | some i => match i.und with
      | .slice _ | .string => 0
      | _ => 1
    | none => 1
  | .load .. | .fieldAddr .. | .indexAddr .. => 1
  | .call { callee := .builtin b, .. } => match b with
    | .len | .cap | .min | .max | .real | .imag | .complex => 0
    | _ => 2
  | _ => 2

/-- The same, a call being quiet (it leaves the heap as it is) or not. -/
def quietOp (qt : FuncId → Bool) (o : Op) : Bool :=
  match callOf o with
  | some (.func k, _) => qt k
  | _ => false
def heapKind (qt : FuncId → Bool) (T : Tab) (o : Op) : Nat := if quietOp qt o then 1 else heapKind0 T o

theorem heapKind_call {T : Tab} {o : Op} {fa : Operand × List Operand} (h : callOf o = some fa) : heapKind qt T o = if quietOp qt o then 1 else 2 := by
  unfold heapKind
  split
  · rfl
  · unfold callOf at h
    split at h
    · rfl
    · cases h
theorem heapKind_op {T : Tab} {o : Op} (h : callOf o = none) : heapKind qt T o = heapKind0 T o := by
  unfold heapKind quietOp
  rw [h]; simp

def apartB (qt : FuncId → Bool) (T : Tab) (ops : Array Oper) (x y : Oper) : Bool :=
  (match x.dst with | some d => !(looks ops y).contains d && y.dst != some d | none => true) &&
  (match y.dst with | some d => !(looks ops x).contains d | none => true) &&
  !(heapKind qt T x.op == 2 && heapKind qt T y.op != 0) && !(heapKind qt T y.op == 2 && heapKind qt T x.op != 0)

/-- What stands ahead of an operation by its edges, as bits. -/
def maskOf (l : List Nat) (o : Oper) : Nat :=
  o.after.toList.foldl (fun m e => if Region.binds .any e then m ||| (1 <<< e.on) ||| l.getD e.on 0 else m) 0

def masks : List Oper → List Nat → List Nat
  | [], l => l
  | o :: os, l => masks os (l ++ [maskOf l o])

/-- May the operations be taken in the text's order? -/
def regB (qt : FuncId → Bool) (T : Tab) (ops : Array Oper) : Bool :=
  (ops.toList.zipIdx.all fun p => p.1.after.toList.all fun e => !Region.binds .any e || decide (e.on < p.2)) &&
  (ops.toList.zipIdx.all fun q => ops.toList.zipIdx.all fun p => !decide (p.2 < q.2) || ((masks ops.toList []).getD q.2 0).testBit p.2 || apartB qt T ops p.1 q.1)

/-! ### What an operation hangs on -/

theorem map_some {x : Option AV} {z : AV} (h : x = some z) (H : Heap) : x.map (fun v => (v, H)) = some (z, H) := by rw [h]; rfl

theorem convA_pure {T : Tab} {M : Addr → Option AV} {s d : TypeId} {x v : AV} {H H' H2 : Heap} {i j : TI} (hi : T s = some i) (hj : T d = some j) (h1 : ∀ e, i.und ≠ .slice e) (h2 : ∀ e, j.und ≠ .slice e)
    (h : convA T M H s d x = some (v, H')) : H' = H ∧ convA T M H2 s d x = some (v, H2) := by
  unfold convA at h ⊢
  simp only [hi, hj] at h ⊢
  split at h
  · cases h; exact ⟨rfl, rfl⟩
  · cases h; exact ⟨rfl, rfl⟩
  · split at h
    · split at h
      · rename_i hc; cases h; exact ⟨rfl, by simp only [hc, and_self, if_true]⟩
      · cases h
    · cases h
  · split at h
    · rename_i hc; cases h; exact ⟨rfl, by simp only [hc, if_true]⟩
    · rename_i hc
      split at h
      · cases h; exact ⟨rfl, by simp only [hc, if_false]⟩
      · cases h; exact ⟨rfl, by simp only [hc, if_false]⟩
      · split at h
        · cases h
        · rename_i hq; cases h; exact ⟨rfl, by simp only [hc, if_false, hq]; rfl⟩
  · cases h; exact ⟨rfl, rfl⟩
  · cases h; exact ⟨rfl, rfl⟩
  all_goals first | exact absurd (by assumption) (h1 _) | exact absurd (by assumption) (h2 _) | skip
  · cases h

theorem sliceA_pure {T : Tab} {t : TypeId} {i : TI} {x v : AV} {lo hi mx : Option AV} {H : Heap} (ht : T t = some i) (hu : (∃ e, i.und = .slice e) ∨ i.und = .string) (h : sliceA T H t x lo hi mx = some v) (H2 : Heap) : sliceA T H2 t x lo hi mx = some v := by
  unfold sliceA at h ⊢
  simp only [ht] at h ⊢
  rcases hu with ⟨e, hu⟩ | hu
  · simp only [hu] at h ⊢
    split at h <;> first | exact h | (simp_all; done) | cases h
  · simp only [hu] at h ⊢
    split at h <;> first | exact h | (simp_all; done) | cases h

theorem evOp_pure {T : Tab} {M : Addr → Option AV} {o : Op} {ρ : Operand → AV} {H H' : Heap} {v : AV} (hk : heapKind0 T o = 0) (h : evOp T M o ρ H = some (v, H')) : H' = H ∧ ∀ H2, evOp T M o ρ H2 = some (v, H2) := by
  cases o <;> simp only [heapKind0] at hk <;> try (cases hk; done)
  case convert s d x =>
    simp only [evOp] at h ⊢
    split at hk
    · rename_i i j hi hj
      split at hk
      · cases hk
      · cases hk
      · rename_i n1 n2
        exact ⟨(convA_pure (H2 := H) hi hj (fun e he => n1 e he) (fun e he => n2 e he) h).1, fun H2 => (convA_pure hi hj (fun e he => n1 e he) (fun e he => n2 e he) h).2⟩
    · cases hk
  case slice t x lo hi mx =>
    simp only [evOp] at h ⊢
    obtain ⟨z, hz, h2⟩ := map_pair h
    cases h2
    refine ⟨rfl, fun H2 => map_some ?_ H2⟩
    split at hk
    · rename_i i hi
      split at hk
      · rename_i e he; exact sliceA_pure hi (.inl ⟨e, he⟩) hz H2
      · rename_i he; exact sliceA_pure hi (.inr he) hz H2
      · cases hk
    · cases hk
  case call c =>
    obtain ⟨callee, args, ats⟩ := c
    cases callee <;> simp only at hk <;> try (cases hk; done)
    rename_i b
    simp only [evOp, biA] at h ⊢
    split at h <;> (try simp only at hk) <;> first
      | (cases hk; done)
      | (obtain ⟨z, hz, h2⟩ := map_pair h; cases h2; exact ⟨rfl, fun H2 => map_some hz H2⟩)
      | (cases h; done)
      | (cases h; exact ⟨rfl, fun H2 => rfl⟩)
      | (split at h
         · rename_i hc; cases h; exact ⟨rfl, fun H2 => by simp only [hc, if_true]⟩
         · cases h)
  all_goals
    simp only [evOp] at h ⊢
    first
      | (cases h; exact ⟨rfl, fun H2 => rfl⟩)
      | (obtain ⟨z, hz, h2⟩ := map_pair h; cases h2; exact ⟨rfl, fun H2 => map_some hz H2⟩)
      | (split at h <;> first | (cases h; exact ⟨rfl, fun H2 => rfl⟩) | (cases h; done) | (split at h <;> first | (cases h; done) | (cases h; exact ⟨rfl, fun H2 => rfl⟩)))

theorem evOp_reads {T : Tab} {M : Addr → Option AV} {o : Op} {ρ : Operand → AV} {H H' : Heap} {v : AV} (hk : heapKind0 T o ≤ 1) (h : evOp T M o ρ H = some (v, H')) : H' = H := by
  by_cases h0 : heapKind0 T o = 0
  · exact (evOp_pure h0 h).1
  · have h1 : heapKind0 T o = 1 := by omega
    cases o <;> simp only [heapKind0] at h1 <;> try (cases h1; done)
    case convert s d x =>
      split at h1
      · split at h1 <;> cases h1
      · cases h1
    case slice t x lo hi mx =>
      simp only [evOp] at h
      obtain ⟨z, hz, h2⟩ := map_pair h; cases h2; rfl
    case call c =>
      obtain ⟨callee, args, ats⟩ := c
      cases callee <;> simp only at h1 <;> try (cases h1; done)
      split at h1 <;> cases h1
    all_goals
      simp only [evOp] at h
      obtain ⟨z, hz, h2⟩ := map_pair h; cases h2; rfl

theorem evOp_congr {T : Tab} {M : Addr → Option AV} {o : Op} {ρ ρ' : Operand → AV} (h : ∀ x ∈ o.operands.toList, ρ x = ρ' x) (H : Heap) : evOp T M o ρ H = evOp T M o ρ' H := by
  cases o <;> simp only [evOp] <;> simp only [Op.operands] at h
  case build t parts =>
    have : (parts.toList.map fun p => (p.1, ρ p.2)) = (parts.toList.map fun p => (p.1, ρ' p.2)) := List.map_congr_left fun p hp => by
      rw [h p.2 (by simp; exact ⟨p.1, by simpa using hp⟩)]
    rw [this]
  case buildSlice t len parts =>
    have : (parts.toList.map fun p => (p.1, ρ p.2)) = (parts.toList.map fun p => (p.1, ρ' p.2)) := List.map_congr_left fun p hp => by
      rw [h p.2 (by simp; exact ⟨p.1, by simpa using hp⟩)]
    rw [this]
  case slice t x lo hi mx =>
    have e1 : ρ x = ρ' x := h x (by simp)
    have e2 : lo.map ρ = lo.map ρ' := by cases lo with
      | none => rfl
      | some y => simp; exact h y (by simp)
    have e3 : hi.map ρ = hi.map ρ' := by cases hi with
      | none => rfl
      | some y => simp; exact h y (by simp)
    have e4 : mx.map ρ = mx.map ρ' := by cases mx with
      | none => rfl
      | some y => simp; exact h y (by simp)
    rw [e1, e2, e3, e4]
  case call c =>
    obtain ⟨callee, args, ats⟩ := c
    cases callee <;> simp only
    have : args.toList.map ρ = args.toList.map ρ' := List.map_congr_left fun x hx => h x (by simp [Call.operands]; simpa using hx)
    rw [this]
  case pick c a b =>
    rw [h c (by simp), h a (by simp), h b (by simp)]
  all_goals first
    | rfl
    | (rw [h _ (by simp)]; done)
    | (rw [h _ (by simp), h _ (by simp)]; done)
    | (simp only [h _ (List.mem_cons_self ..)]; done)
    | skip

end Go.Proofs.YtaaecodkdgkjoaaDoor.E

namespace Go.Proofs.YtaaecodkdgkjoaaDoor.E
open Go Go.RowKit
variable {qt : FuncId → Bool}

/-! ### What stands ahead -/

theorem mask_fold {l : List Nat} {p : Nat} : ∀ (es : List Edge) (m : Nat), (es.foldl (fun m e => if Region.binds .any e then m ||| (1 <<< e.on) ||| l.getD e.on 0 else m) m).testBit p = true →
    m.testBit p = true ∨ ∃ e ∈ es, Region.binds .any e = true ∧ (e.on = p ∨ (l.getD e.on 0).testBit p = true)
  | [], m, h => .inl h
  | e :: es, m, h => by
    simp only [List.foldl_cons] at h
    rcases mask_fold es _ h with h | ⟨e', he, hb, h⟩
    · by_cases hb : Region.binds .any e = true
      · simp only [hb, if_true, Nat.testBit_or, Bool.or_eq_true] at h
        rcases h with (h | h) | h
        · exact .inl h
        · rw [Nat.testBit_shiftLeft] at h
          simp only [Bool.and_eq_true, decide_eq_true_eq] at h
          refine .inr ⟨e, List.mem_cons_self .., hb, .inl ?_⟩
          have h2 := h.2
          by_cases h0 : p - e.on = 0
          · omega
          · obtain ⟨k, hk⟩ : ∃ k, p - e.on = k + 1 := ⟨p - e.on - 1, by omega⟩
            rw [hk, Nat.testBit_succ] at h2
            simp at h2
        · exact .inr ⟨e, List.mem_cons_self .., hb, .inr h⟩
      · simp only [hb] at h; exact .inl h
    · exact .inr ⟨e', List.mem_cons_of_mem _ he, hb, h⟩

theorem masks_get {q : Nat} {o : Oper} : ∀ (os : List Oper) (l : List Nat), l.length ≤ q → os[q - l.length]? = some o → ∃ l', (∀ j, j < q → l'.getD j 0 = (masks os l).getD j 0) ∧ l'.length = q ∧ (masks os l).getD q 0 = maskOf l' o
  | [], l, h1, h2 => by simp at h2
  | x :: os, l, h1, h2 => by
    simp only [masks]
    by_cases hq : q = l.length
    · subst hq
      simp at h2; subst h2
      have keep : ∀ (os : List Oper) (l : List Nat) (j : Nat), j < l.length → (masks os l).getD j 0 = l.getD j 0 := by
        intro os
        induction os with
        | nil => intro l j _; rfl
        | cons y os ih => intro l j hj; simp only [masks]; rw [ih _ j (by simp; omega)]; simp [List.getD_eq_getElem?_getD, List.getElem?_append_left hj]
      refine ⟨l, fun j hj => ?_, rfl, ?_⟩
      · rw [keep os _ j (by simp; omega)]; simp [List.getD_eq_getElem?_getD, List.getElem?_append_left hj]
      · rw [keep os _ _ (by simp)]; simp [List.getD_eq_getElem?_getD]
    · have := masks_get (q := q) (o := o) os (l ++ [maskOf l x]) (by simp; omega) (by
        simp only [List.length_append, List.length_singleton]
        have e : q - l.length = (q - (l.length + 1)) + 1 := by omega
        rw [e] at h2; simpa using h2)
      exact this

/-- What is listed holds what its edges name. -/
def Closed (ops : Array Oper) (L : Nat → Bool) : Prop := ∀ (q : Nat) (o : Oper), ops[q]? = some o → L q = true → ∀ e ∈ o.after, Region.binds .any e = true → L e.on = true

theorem closed_mask {ops : Array Oper} {L : Nat → Bool} (hc : Closed ops L) (hb : ∀ (q : Nat) (o : Oper), ops[q]? = some o → ∀ e ∈ o.after, Region.binds .any e = true → e.on < q) :
    ∀ (n q : Nat), q < n → ∀ o p, ops[q]? = some o → (∀ e ∈ o.after, Region.binds .any e = true → L e.on = true) → ((masks ops.toList []).getD q 0).testBit p = true → L p = true
  | 0, q, hn, _, _, _, _, _ => by omega
  | n + 1, q, hn, o, p, ho, hL, hm => by
    obtain ⟨l', h1, h2, h3⟩ := masks_get (q := q) (o := o) ops.toList [] (by simp) (by simpa using ho)
    rw [h3] at hm
    unfold maskOf at hm
    rcases mask_fold _ _ hm with h | ⟨e, he, hbe, h⟩
    · simp at h
    · have he' : e ∈ o.after := by simpa using he
      rcases h with h | h
      · rw [← h]; exact hL e he' hbe
      · have hlt := hb q o ho e he' hbe
        have hoe := hL e he' hbe
        rw [h1 e.on hlt] at h
        cases hx : ops[e.on]? with
        | none =>
          have hs : ops.size ≤ e.on := by simpa using hx
          have : q < ops.size := (Array.getElem?_eq_some_iff.1 ho).1
          omega
        | some oe => exact closed_mask hc hb n e.on (by omega) oe p hx (hc _ _ hx hoe) h

/-! ### What the listed ones have left behind -/

abbrev Tr := List (Oper × AV × Heap)

def foldE : (Nat → Bool) → Tr → List AV → List AV
  | _, [], env => env
  | L, (o, v, _) :: r, env => foldE (fun j => L (j + 1)) r (if L 0 then putA env o.dst v else env)

def foldH (qt : FuncId → Bool) (T : Tab) : (Nat → Bool) → Tr → Heap → Heap
  | _, [], H => H
  | L, (o, _, h) :: r, H => foldH qt T (fun j => L (j + 1)) r (if L 0 && heapKind qt T o.op == 2 then h else H)

theorem putA_get {env : List AV} {d : Option Tmp} {v : AV} {t : Nat} (h : d ≠ some t) : (putA env d v)[t]? = env[t]? := by
  cases d with
  | none => rfl
  | some d =>
    simp only [putA]
    rw [List.getElem?_set_ne (fun e => h (by rw [e]))]

theorem foldE_get {t : Nat} : ∀ (tr : Tr) (L L' : Nat → Bool) (env env' : List AV), (∀ (j : Nat) o v h, tr[j]? = some (o, v, h) → o.dst = some t → L j = L' j) → env[t]? = env'[t]? → (foldE L tr env)[t]? = (foldE L' tr env')[t]?
  | [], _, _, _, _, _, he => he
  | (o, v, h) :: r, L, L', env, env', hL, he => by
    simp only [foldE]
    refine foldE_get r _ _ _ _ (fun j o v h hj hd => hL (j + 1) o v h (by simpa using hj) hd) ?_
    by_cases hd : o.dst = some t
    · rw [← hL 0 o v h rfl hd]
      cases L 0
      · exact he
      · simp only [if_true, hd, putA, List.getElem?_set_self', he]
    · have : ∀ (b : Bool) (e : List AV), (if b then putA e o.dst v else e)[t]? = e[t]? := fun b e => by cases b <;> simp [putA_get hd]
      rw [this, this, he]

theorem foldE_congr : ∀ (tr : Tr) (L L' : Nat → Bool) (env : List AV), (∀ j, j < tr.length → L j = L' j) → foldE L tr env = foldE L' tr env
  | [], _, _, _, _ => rfl
  | (o, v, h) :: r, L, L', env, hL => by
    simp only [foldE]
    rw [hL 0 (by simp)]
    exact foldE_congr r _ _ _ fun j hj => hL (j + 1) (by simpa using hj)

theorem foldE_none (tr : Tr) (L : Nat → Bool) (env : List AV) (h : ∀ j, j < tr.length → L j = false) : foldE L tr env = env := by
  induction tr generalizing L with
  | nil => rfl
  | cons x r ih =>
    obtain ⟨o, v, hh⟩ := x
    simp only [foldE]
    rw [h 0 (by simp)]
    exact ih _ fun j hj => h (j + 1) (by simpa using hj)

theorem putA_comm {env : List AV} {d e : Option Tmp} {v u : AV} (h : ∀ x, d = some x → e ≠ some x) : putA (putA env d v) e u = putA (putA env e u) d v := by
  cases d with
  | none => rfl
  | some d =>
    cases e with
    | none => rfl
    | some e =>
      simp only [putA]
      exact List.set_comm _ _ (fun he => h d rfl (by rw [he]))

theorem foldE_put {d : Option Tmp} {u : AV} : ∀ (tr : Tr) (L : Nat → Bool) (env : List AV), (∀ (j : Nat) o v h, tr[j]? = some (o, v, h) → L j = true → ∀ x, o.dst = some x → d ≠ some x) → foldE L tr (putA env d u) = putA (foldE L tr env) d u
  | [], _, _, _ => rfl
  | (o, v, h) :: r, L, env, hL => by
    simp only [foldE]
    rw [← foldE_put r _ _ fun j o v h hj hl => hL (j + 1) o v h (by simpa using hj) hl]
    cases h0 : L 0 with
    | false => rfl
    | true =>
      simp only [if_true]
      rw [putA_comm (hL 0 o v h rfl h0)]

theorem foldE_add {o : Oper} {v : AV} {h : Heap} : ∀ (tr : Tr) (i : Nat) (L : Nat → Bool) (env : List AV), tr[i]? = some (o, v, h) → L i = false →
    (∀ (j : Nat) o' v' h', i < j → tr[j]? = some (o', v', h') → L j = true → ∀ x, o'.dst = some x → o.dst ≠ some x) → foldE (fun j => L j || j == i) tr env = putA (foldE L tr env) o.dst v
  | [], _, _, _, ht, _, _ => by simp at ht
  | (o', v', h') :: r, 0, L, env, ht, hi, hL => by
    simp only [List.getElem?_cons_zero, Option.some.injEq, Prod.mk.injEq] at ht
    obtain ⟨rfl, rfl, rfl⟩ := ht
    simp only [foldE, hi]
    have e : (fun j => L (j + 1) || (j + 1 == 0)) = fun j => L (j + 1) := by funext j; simp
    rw [e, ← foldE_put r _ _ fun j o v h hj hl => hL (j + 1) o v h (by omega) (by simpa using hj) hl]
    simp
  | (o', v', h') :: r, i + 1, L, env, ht, hi, hL => by
    simp only [foldE]
    have e : (fun j => L (j + 1) || (j + 1 == i + 1)) = fun j => (fun j => L (j + 1)) j || j == i := by funext j; simp
    have e0 : (L 0 || (0 == i + 1)) = L 0 := by simp
    rw [e]
    simp only [e0]
    exact foldE_add r i (fun j => L (j + 1)) _ (by simpa using ht) hi fun j o' v' h' hij hj hl => hL (j + 1) o' v' h' (by omega) (by simpa using hj) hl

theorem foldH_congr {T : Tab} : ∀ (tr : Tr) (L L' : Nat → Bool) (H : Heap), (∀ (j : Nat) o v h, tr[j]? = some (o, v, h) → heapKind qt T o.op = 2 → L j = L' j) → foldH qt T L tr H = foldH qt T L' tr H
  | [], _, _, _, _ => rfl
  | (o, v, h) :: r, L, L', H, hL => by
    simp only [foldH]
    rw [foldH_congr r _ (fun j => L' (j + 1)) _ fun j o v h hj hk => hL (j + 1) o v h (by simpa using hj) hk]
    by_cases hk : heapKind qt T o.op = 2
    · rw [hL 0 o v h rfl hk]
    · have : (heapKind qt T o.op == 2) = false := by simp [hk]
      simp only [this, Bool.and_false]

theorem foldH_none {T : Tab} (tr : Tr) (L : Nat → Bool) (H : Heap) (h : ∀ (j : Nat) o v h, tr[j]? = some (o, v, h) → heapKind qt T o.op = 2 → L j = false) : foldH qt T L tr H = H := by
  induction tr generalizing L with
  | nil => rfl
  | cons x r ih =>
    obtain ⟨o, v, hh⟩ := x
    simp only [foldH]
    have : (L 0 && heapKind qt T o.op == 2) = false := by
      by_cases hk : heapKind qt T o.op = 2
      · rw [h 0 o v hh rfl hk]; rfl
      · simp [hk]
    rw [this]
    exact ih _ fun j o v h' hj hk => h (j + 1) o v h' (by simpa using hj) hk

theorem foldH_add {T : Tab} {o : Oper} {v : AV} {h : Heap} : ∀ (tr : Tr) (i : Nat) (L : Nat → Bool) (H : Heap), tr[i]? = some (o, v, h) → heapKind qt T o.op = 2 →
    (∀ (j : Nat) o' v' h', i < j → tr[j]? = some (o', v', h') → heapKind qt T o'.op = 2 → L j = false) → foldH qt T (fun j => L j || j == i) tr H = h
  | [], _, _, _, ht, _, _ => by simp at ht
  | (o', v', h') :: r, 0, L, H, ht, hk, hL => by
    simp only [List.getElem?_cons_zero, Option.some.injEq, Prod.mk.injEq] at ht
    obtain ⟨rfl, rfl, rfl⟩ := ht
    simp only [foldH]
    rw [foldH_none]
    · simp [hk]
    · intro j o v h hj hk'
      simp [hL (j + 1) o v h (by omega) (by simpa using hj) hk']
  | (o', v', h') :: r, i + 1, L, H, ht, hk, hL => by
    simp only [foldH]
    have e : (fun j => L (j + 1) || (j + 1 == i + 1)) = fun j => (fun j => L (j + 1)) j || j == i := by funext j; simp
    rw [e]
    exact foldH_add r i (fun j => L (j + 1)) _ (by simpa using ht) hk fun j o' v' h' hij hj hl => hL (j + 1) o' v' h' (by omega) (by simpa using hj) hl

theorem StepD.kept {P : Program} {T : Tab} {M : Addr → Option AV} {o : Oper} {env : List AV} {H H' : Heap} {v : AV} (h : StepD qt P T M o env H v H') (hk : heapKind qt T o.op ≠ 2) : H' = H := by
  unfold StepD at h
  split at h
  · rename_i f args hc
    obtain ⟨k, hf, _, hq⟩ := h
    rw [heapKind_call hc] at hk
    cases hqo : quietOp qt o.op with
    | true =>
      unfold quietOp at hqo
      rw [hc] at hqo
      split at hqo
      · rename_i k' l he
        simp only [Option.some.injEq, Prod.mk.injEq] at he
        obtain ⟨rfl, rfl⟩ := he
        simp only [opv, AV.func.injEq] at hf
        subst hf
        exact hq hqo
      · cases hqo
    | false => rw [hqo] at hk; exact absurd rfl hk
  · rename_i hc
    have : heapKind0 T o.op ≤ 2 := by
      unfold heapKind0
      split <;> (try split) <;> (try split) <;> omega
    rw [heapKind_op hc] at hk
    exact evOp_reads (by omega) h

theorem StepG.kept {P : Program} {T : Tab} {M : Addr → Option AV} {ops : Array Oper} {o : Oper} {env : List AV} {H H' : Heap} {v : AV} (h : StepG qt P T M ops o env H v H') (hk : heapKind qt T o.op ≠ 2) : H' = H := by
  rcases h with ⟨_, h⟩ | ⟨_, _, h⟩
  · exact h.kept hk
  · exact h

/-- The run in the text's order, laid out. -/
theorem RunD.trace {P : Program} {T : Tab} {M : Addr → Option AV} {ops : Array Oper} : ∀ (os : List Oper) (env : List AV) (H : Heap) (env' : List AV) (H' : Heap), RunD qt P T M ops os env H env' H' →
    ∃ tr : Tr, tr.map (·.1) = os ∧ (∀ (i : Nat) o v h, tr[i]? = some (o, v, h) → StepG qt P T M ops o (foldE (fun j => decide (j < i)) tr env) (foldH qt T (fun j => decide (j < i)) tr H) v h) ∧
      env' = foldE (fun _ => true) tr env ∧ H' = foldH qt T (fun _ => true) tr H
  | [], env, H, env', H', h => ⟨[], rfl, fun i o v h hi => by simp at hi, h.1, h.2⟩
  | o :: os, env, H, env', H', h => by
    obtain ⟨v, H1, hs, hr⟩ := h
    obtain ⟨tr, e1, e2, e3, e4⟩ := RunD.trace os _ _ _ _ hr
    have hH : (if (true && heapKind qt T o.op == 2) = true then H1 else H) = H1 := by
      by_cases hk : heapKind qt T o.op = 2
      · simp [hk]
      · simp [hk, hs.kept hk]
    refine ⟨(o, v, H1) :: tr, by simp [e1], fun i o' v' h' hi => ?_, ?_, ?_⟩
    · cases i with
      | zero =>
        simp only [List.getElem?_cons_zero, Option.some.injEq, Prod.mk.injEq] at hi
        obtain ⟨rfl, rfl, rfl⟩ := hi
        rw [foldE_none _ _ _ fun j _ => by simp, foldH_none _ _ _ fun j _ _ _ _ _ => by simp]
        exact hs
      | succ i =>
        simp only [foldE, foldH]
        have e : (fun j => decide (j + 1 < i + 1)) = fun j => decide (j < i) := by funext j; simp
        have e0 : decide (0 < i + 1) = true := by simp
        rw [e]
        simp only [e0, hH, if_true]
        exact e2 i o' v' h' (by simpa using hi)
    · simp only [foldE, if_true]; exact e3
    · simp only [foldH, hH]; exact e4

end Go.Proofs.YtaaecodkdgkjoaaDoor.E

namespace Go.Proofs.YtaaecodkdgkjoaaDoor.E
open Go Go.RowKit
variable {qt : FuncId → Bool}

theorem wanted_ok {ops : Array Oper} {o : Oper} {env : List AV} {a : Act} {ρ : Asg} {b : Bool} (q : RelEnv ρ env a) (h : wantedA ops env o = some b) : Region.wanted o (yielded ops a.tmps) = b := by
  unfold wantedA at h
  unfold Region.wanted
  split at h
  · rename_i hg; cases h; rw [hg]
  · rename_i j want hg
    rw [hg]
    simp only
    unfold yielded
    split at h
    · rename_i hd; cases h; rw [hd]; rfl
    · rename_i t hd
      rw [hd]
      simp only [Option.bind_some]
      have hl := q.tmps.length
      simp only [Array.length_toList] at hl
      split at h
      · rename_i he
        cases h
        have : a.tmps[t]? = none := by
          rw [Array.getElem?_eq_none]
          have := List.getElem?_eq_none_iff.1 he
          omega
        rw [this]; rfl
      · rename_i x he
        cases h
        obtain ⟨cv, h1, h2⟩ := q.tmps.get he
        rw [Array.getElem?_toList] at h1
        simp only [VR] at h2
        rw [h1, h2]
        cases x <;> cases want <;> rfl
      · rename_i x he
        cases h
        obtain ⟨cv, h1, h2⟩ := q.tmps.get he
        rw [Array.getElem?_toList] at h1
        simp only [VR] at h2
        obtain ⟨vs, h2, _⟩ := h2
        rw [h1, h2]; rfl
      · cases h

/-- One operation, whatever it may come to. -/
def StepQ (P : Program) (T : Tab) (M : Addr → Option AV) (o : Oper) (env : List AV) (H : Heap) (Q : AV → Heap → Prop) : Prop :=
  match callOf o.op with
  | some (f, args) => ∃ k, opv env f = .func k ∧ SemF P M k (args.map (opv env)) H Q
  | none => ∃ v H', evOp T M o.op (opv env) H = some (v, H') ∧ Q v H'

theorem StepD.toQ {P : Program} {T : Tab} {M : Addr → Option AV} {o : Oper} {env : List AV} {H H' : Heap} {v : AV} (h : StepD qt P T M o env H v H') : StepQ P T M o env H fun v' H'' => v' = v ∧ H'' = H' := by
  unfold StepD at h
  unfold StepQ
  cases hc : callOf o.op with
  | some fa => simp only [hc] at h ⊢; obtain ⟨k, h1, h2, _⟩ := h; exact ⟨k, h1, h2⟩
  | none => simp only [hc] at h ⊢; exact ⟨v, H', h, rfl, rfl⟩

theorem StepQ.wp {P : Program} {T : Tab} {M : Addr → Option AV} {o : Oper} {env : List AV} {H : Heap} {Q : AV → Heap → Prop} {a : Act} {ρ : Asg} {W0 W : World} {QQ : Exit → Act → World → Prop} {K : Act → World → Prop}
    (hT : TOK P T) (hM : MOK M W0) (h : StepQ P T M o env H Q) (q : RelEnv ρ env a) (hR : Rel ρ H W0 W)
    (hK : ∀ v H' cv W' ρ', Q v H' → Le ρ ρ' → VR ρ' v cv → Rel ρ' H' W0 W' → K (a.put o.dst cv) W') : o.wp P a W K QQ := by
  unfold StepQ at h
  unfold Oper.wp
  split at h
  · rename_i f args hc
    obtain ⟨k, hk, hs⟩ := h
    have hf := q.eval f
    rw [hk] at hf
    simp only [VR] at hf
    unfold callOf at hc
    split at hc
    · rename_i f' args' ats ho
      simp only [Option.some.injEq, Prod.mk.injEq] at hc
      obtain ⟨rfl, rfl⟩ := hc
      have e : (execOp a.eval o).run P W = (callFunc k (args'.map a.eval)).run P W := by
        unfold execOp
        simp only [ho, resolve, hf, Deferred.ofValue, Sem.run_bind, Sem.run_pure, invoke, Array.empty_append, Result.andThen, Array.append_empty]
      rw [e]
      have ha : VRs ρ (args'.toList.map (opv env)) (args'.map a.eval).toList := by
        rw [Array.toList_map]
        exact args_rel q _
      rcases hs W0 W ρ (args'.map a.eval) hM hR ha with ⟨h1, h2⟩ | ⟨cv, W', h1, v, H', ρ', hq, l, hv, hr⟩
      · rw [h1]
        simp only [Oper.upon]
        refine h2.mono fun en w' he => ?_
        cases en with
        | returned cv => obtain ⟨v, H', ρ', hq, l, hv, hr⟩ := he; exact hK v H' cv w' ρ' hq l hv hr
        | panicked => exact he.elim
        | outgrown => exact he.elim
      · rw [h1]
        simp only [Oper.upon]
        exact hK v H' cv W' ρ' hq l hv hr
    · cases hc
  · obtain ⟨v, H', he, hq⟩ := h
    obtain ⟨cv, W', ρ', h1, l, hv, hr⟩ := evOp_ok hT hR hM q he
    rcases h1 with h1 | ⟨h1, rfl⟩
    · rw [h1]; simp only [Oper.upon]; exact hK v H' cv W' ρ' hq l hv hr
    · rw [h1]; simp only [Oper.upon]; exact hK v H' _ W' ρ' hq l hv hr

theorem VR_undef (ρ : Asg) : VR ρ (.tup []) undef := by
  simp only [VR]
  exact ⟨#[], rfl, by simp only [VRs]⟩

theorem StepG.wpOp {P : Program} {T : Tab} {M : Addr → Option AV} {ops : Array Oper} {o : Oper} {i : Nat} {env : List AV} {H H1 : Heap} {v : AV} {a : Act} {ρ : Asg} {W0 W : World} {QQ : Exit → Act → World → Prop} {K : Act → World → Prop}
    (hT : TOK P T) (hM : MOK M W0) (ho : ops[i]? = some o) (h : StepG qt P T M ops o env H v H1) (q : RelEnv ρ env a) (hR : Rel ρ H W0 W)
    (hK : ∀ cv W' ρ', Le ρ ρ' → VR ρ' v cv → Rel ρ' H1 W0 W' → K (a.put o.dst cv) W') : wpOp P ops QQ i K a W := by
  unfold Go.wpOp
  rw [ho]
  dsimp only
  rcases h with ⟨hw, h⟩ | ⟨hw, rfl, rfl⟩
  · rw [wanted_ok q hw]
    simp only [if_true]
    exact .inl (h.toQ.wp hT hM q hR fun v' H' cv W' ρ' ⟨e1, e2⟩ l hv hr => by subst e1 e2; exact hK cv W' ρ' l hv hr)
  · rw [wanted_ok q hw]
    simp only [Bool.false_eq_true, if_false]
    exact hK undef W ρ (Le.refl ρ) (VR_undef ρ) hR

/-! ### Any order -/

theorem apart_spec {T : Tab} {ops : Array Oper} {x y : Oper} (h : apartB qt T ops x y = true) :
    (∀ d, x.dst = some d → d ∉ looks ops y ∧ y.dst ≠ some d) ∧ (∀ d, y.dst = some d → d ∉ looks ops x) ∧ (heapKind qt T x.op = 2 → heapKind qt T y.op = 0) ∧ (heapKind qt T y.op = 2 → heapKind qt T x.op = 0) := by
  unfold apartB at h
  simp only [Bool.and_eq_true, Bool.not_eq_true', Bool.and_eq_false_iff, bne_eq_false_iff_eq, beq_eq_false_iff_ne] at h
  obtain ⟨⟨⟨h1, h2⟩, h3⟩, h4⟩ := h
  refine ⟨fun d hd => ?_, fun d hd => ?_, fun hk => ?_, fun hk => ?_⟩
  · rw [hd] at h1; simp at h1; exact ⟨h1.1, h1.2⟩
  · rw [hd] at h2; simp at h2; exact h2
  · rcases h3 with h3 | h3
    · exact absurd hk h3
    · exact h3
  · rcases h4 with h4 | h4
    · exact absurd hk h4
    · exact h4

theorem wantedA_congr {ops : Array Oper} {o : Oper} {env env' : List AV} (h : ∀ t ∈ guardTmp ops o, env[t]? = env'[t]?) : wantedA ops env o = wantedA ops env' o := by
  unfold wantedA
  unfold guardTmp at h
  split
  · rfl
  · rename_i j want hg
    rw [hg] at h
    simp only at h
    cases hd : (ops[j]?).bind (·.dst) with
    | none => rfl
    | some t => simp only; rw [h t (by simp [hd])]

theorem opv_congr {env env' : List AV} {x : Operand} (h : ∀ t, tmpOf x = some t → env[t]? = env'[t]?) : opv env x = opv env' x := by
  cases x with
  | tmp t => simp only [opv]; rw [List.getD_eq_getElem?_getD, List.getD_eq_getElem?_getD, h t rfl]
  | _ => rfl

theorem StepG.congr {P : Program} {T : Tab} {M : Addr → Option AV} {ops : Array Oper} {o : Oper} {env env' : List AV} {H H1 : Heap} {v : AV} (h : StepG qt P T M ops o env H v H1) (he : ∀ t ∈ looks ops o, env[t]? = env'[t]?) : StepG qt P T M ops o env' H v H1 := by
  have hw : wantedA ops env o = wantedA ops env' o := wantedA_congr fun t ht => he t (List.mem_append_right _ ht)
  have hx : ∀ x ∈ o.op.operands.toList, opv env x = opv env' x := fun x hx => opv_congr fun t ht => he t (List.mem_append_left _ (List.mem_filterMap.2 ⟨x, hx, ht⟩))
  unfold StepG at h ⊢
  rw [← hw]
  rcases h with ⟨h1, h2⟩ | h
  · refine .inl ⟨h1, ?_⟩
    unfold StepD at h2 ⊢
    cases hc : callOf o.op with
    | some fa =>
      obtain ⟨f, args⟩ := fa
      simp only [hc] at h2 ⊢
      unfold callOf at hc
      split at hc
      · rename_i f' args' ats ho
        simp only [Option.some.injEq, Prod.mk.injEq] at hc
        obtain ⟨rfl, rfl⟩ := hc
        have e1 : opv env f' = opv env' f' := hx f' (by rw [ho]; simp [Op.operands, Call.operands])
        have e2 : args'.toList.map (opv env) = args'.toList.map (opv env') := List.map_congr_left fun x hm => hx x (by rw [ho]; simp [Op.operands, Call.operands]; exact .inr (by simpa using hm))
        rw [← e1, ← e2]; exact h2
      · cases hc
    | none =>
      simp only [hc] at h2 ⊢
      rw [← evOp_congr hx]; exact h2
  · exact .inr h

theorem StepG.heap {P : Program} {T : Tab} {M : Addr → Option AV} {ops : Array Oper} {o : Oper} {env : List AV} {H H1 H2 : Heap} {v : AV} (h : StepG qt P T M ops o env H v H1) (hk : heapKind qt T o.op = 0) : StepG qt P T M ops o env H2 v H2 := by
  rcases h with ⟨h1, h⟩ | ⟨h1, rfl, rfl⟩
  · refine .inl ⟨h1, ?_⟩
    unfold StepD at h ⊢
    split at h
    · rename_i f args hc
      exfalso
      rw [heapKind_call hc] at hk
      split at hk <;> cases hk
    · rename_i hc
      rw [heapKind_op hc] at hk
      exact (evOp_pure hk h).2 H2
  · exact .inr ⟨h1, rfl, rfl⟩

end Go.Proofs.YtaaecodkdgkjoaaDoor.E

namespace Go.Proofs.YtaaecodkdgkjoaaDoor.E
open Go Go.RowKit
variable {qt : FuncId → Bool}

theorem regB_back {T : Tab} {ops : Array Oper} (h : regB qt T ops = true) : ∀ (q : Nat) (o : Oper), ops[q]? = some o → ∀ e ∈ o.after, Region.binds .any e = true → e.on < q := by
  intro q o ho e he hb
  unfold regB at h
  simp only [Bool.and_eq_true, List.all_eq_true] at h
  have h1 := h.1 (o, q) (by
    rw [List.mem_zipIdx_iff_getElem?]; simpa using ho) e (by simpa using he)
  simpa [hb] using h1

theorem regB_pair {T : Tab} {ops : Array Oper} (h : regB qt T ops = true) {p q : Nat} {x y : Oper} (hx : ops[p]? = some x) (hy : ops[q]? = some y) (hpq : p < q) :
    ((masks ops.toList []).getD q 0).testBit p = true ∨ apartB qt T ops x y = true := by
  unfold regB at h
  simp only [Bool.and_eq_true, List.all_eq_true] at h
  have h1 := h.2 (y, q) (by rw [List.mem_zipIdx_iff_getElem?]; simpa using hy) (x, p) (by rw [List.mem_zipIdx_iff_getElem?]; simpa using hx)
  simp only [Bool.or_eq_true, Bool.not_eq_true', decide_eq_false_iff_not] at h1
  rcases h1 with (h1 | h1) | h1
  · exact absurd hpq h1
  · exact .inl h1
  · exact .inr h1

theorem count_set : ∀ (l : List Bool) (i : Nat), l[i]? = some false → (l.set i true).count false + 1 = l.count false
  | [], i, h => by simp at h
  | x :: l, 0, h => by simp at h; subst h; simp
  | x :: l, i + 1, h => by
    have := count_set l i (by simpa using h)
    simp only [List.set_cons_succ, List.count_cons]
    omega

theorem count_zero {l : List Bool} (h : l.count false = 0) (i : Nat) (b : Bool) (hi : l[i]? = some b) : b = true := by
  cases b with
  | true => rfl
  | false => exact absurd (List.mem_of_getElem? hi) (List.count_eq_zero.1 h)

theorem wpAny_ok {P : Program} {T : Tab} {M : Addr → Option AV} {ops : Array Oper} {W0 : World} {ρ0 : Asg} {env : List AV} {H : Heap} {Q : Exit → Act → World → Prop} {tr : Tr}
    (hT : TOK P T) (hM : MOK M W0) (hreg : regB qt T ops = true) (htr : tr.map (·.1) = ops.toList)
    (hs : ∀ (i : Nat) o v h, tr[i]? = some (o, v, h) → StepG qt P T M ops o (foldE (fun j => decide (j < i)) tr env) (foldH qt T (fun j => decide (j < i)) tr H) v h)
    (hQ : ∀ ρ' a' W', Le ρ0 ρ' → RelEnv ρ' (foldE (fun _ => true) tr env) a' → Rel ρ' (foldH qt T (fun _ => true) tr H) W0 W' → Q .normal a' W') :
    ∀ (fuel : Nat) (listed : Array Bool) (a : Act) (W : World) (ρ : Asg), listed.size = ops.size → Closed ops (fun j => listed.getD j false) → listed.toList.count false ≤ fuel → Le ρ0 ρ →
      RelEnv ρ (foldE (fun j => listed.getD j false) tr env) a → Rel ρ (foldH qt T (fun j => listed.getD j false) tr H) W0 W → wpAny P .any ops Q fuel listed a W := by
  have hlen : tr.length = ops.size := by
    have := congrArg List.length htr
    simpa using this
  have hget : ∀ (j : Nat) o v h, tr[j]? = some (o, v, h) → ops[j]? = some o := fun j o v h hj => by
    have h1 : (tr.map (·.1))[j]? = some o := by simp [hj]
    rw [htr] at h1
    simpa using h1
  have all : ∀ (listed : Array Bool), listed.size = ops.size → Region.ready .any ops listed = [] → ∀ j, j < ops.size → listed.getD j false = true := by
    intro listed hsz hr j
    induction j using Nat.strongRecOn with
    | _ j ih =>
      intro hj
      cases hc : listed.getD j false with
      | true => rfl
      | false =>
        exfalso
        have : j ∈ Region.ready .any ops listed := by
          rw [mem_ready]
          have ho : ops[j]? = some ops[j] := by simp [hj]
          refine ⟨?_, ops[j], ho, fun e he hb => ?_⟩
          · have h2 : j < listed.size := by omega
            simp [h2] at hc ⊢
            exact hc
          · have := regB_back hreg j _ ho e he hb
            exact ih e.on this (by omega)
        rw [hr] at this
        cases this
  have fin : ∀ (listed : Array Bool) (a : Act) (W : World) (ρ : Asg), listed.size = ops.size → Region.ready .any ops listed = [] → Le ρ0 ρ →
      RelEnv ρ (foldE (fun j => listed.getD j false) tr env) a → Rel ρ (foldH qt T (fun j => listed.getD j false) tr H) W0 W → Q .normal a W := by
    intro listed a W ρ hsz hr hl q hR
    have ha := all listed hsz hr
    refine hQ ρ a W hl ?_ ?_
    · rw [foldE_congr tr (fun _ => true) (fun j => listed.getD j false) env fun j hj => (ha j (by omega)).symm]; exact q
    · rw [foldH_congr tr (fun _ => true) (fun j => listed.getD j false) H fun j o v h hj _ => (ha j (by
        have := (List.getElem?_eq_some_iff.1 hj).1; omega)).symm]; exact hR
  intro fuel
  induction fuel with
  | zero =>
    intro listed a W ρ hsz hcl hcnt hl q hR
    have hr : Region.ready .any ops listed = [] := by
      rw [List.eq_nil_iff_forall_not_mem]
      intro i hi
      obtain ⟨h1, o, ho, _⟩ := mem_ready.1 hi
      have hlt : i < listed.size := by rw [hsz]; exact (Array.getElem?_eq_some_iff.1 ho).1
      have := count_zero (l := listed.toList) (by omega) i listed[i] (by simp [hlt])
      simp [hlt] at h1
      rw [h1] at this; cases this
    exact ⟨hr, fin listed a W ρ hsz hr hl q hR⟩
  | succ fuel ih =>
    intro listed a W ρ hsz hcl hcnt hl q hR
    refine ⟨fun hr => fin listed a W ρ hsz hr hl q hR, fun i hi => ?_⟩
    obtain ⟨h1, o, ho, hedge⟩ := mem_ready.1 hi
    have hlt : i < listed.size := by rw [hsz]; exact (Array.getElem?_eq_some_iff.1 ho).1
    have hLi : listed.getD i false = false := by simp [hlt] at h1 ⊢; exact h1
    obtain ⟨o', v, h, hti⟩ : ∃ o' v h, tr[i]? = some (o', v, h) := ⟨tr[i].1, tr[i].2.1, tr[i].2.2, by simp [show i < tr.length by omega]⟩
    have ho' := hget i o' v h hti
    rw [ho] at ho'
    cases ho'
    have hback := regB_back hreg
    -- what lies ahead of i or behind it
    have ahead : ∀ (j : Nat) oj, ops[j]? = some oj → j < i → listed.getD j false = true ∨ apartB qt T ops oj o = true := fun j oj hj hji => by
      rcases regB_pair hreg hj ho hji with h | h
      · exact .inl (closed_mask (L := fun j => listed.getD j false) hcl hback (i + 1) i (by omega) o j ho hedge h)
      · exact .inr h
    have behind : ∀ (j : Nat) oj, ops[j]? = some oj → i < j → listed.getD j false = true → apartB qt T ops o oj = true := fun j oj hj hij hl => by
      rcases regB_pair hreg ho hj hij with h | h
      · have := closed_mask (L := fun j => listed.getD j false) hcl hback (j + 1) j (by omega) oj i hj (hcl j oj hj hl) h
        simp only [hLi] at this; cases this
      · exact h
    have st := hs i o v h hti
    have st1 := st.congr (env' := foldE (fun j => listed.getD j false) tr env) fun t ht => by
      refine foldE_get tr _ _ env env (fun j oj vj hj hjt hd => ?_) rfl
      have hoj := hget j oj vj hj hjt
      rcases Nat.lt_trichotomy j i with hji | rfl | hij
      · rcases ahead j oj hoj hji with h | h
        · simp only [h, hji, decide_true]
        · exact absurd ht ((apart_spec h).1 t hd).1
      · simp only [hLi, Nat.lt_irrefl, decide_false]
      · cases hlj : listed.getD j false with
        | false => simp; omega
        | true => exact absurd ht ((apart_spec (behind j oj hoj hij hlj)).2.1 t hd)
    have hset : (fun j => (listed.setIfInBounds i true).getD j false) = fun j => (fun j => listed.getD j false) j || j == i := by
      funext j
      by_cases hji : j = i
      · subst hji; simp [hlt]
      · rw [getD_set_ne false (Ne.symm hji)]; simp [hji]
    -- the heap
    have hheap : ∃ h2, StepG qt P T M ops o (foldE (fun j => listed.getD j false) tr env) (foldH qt T (fun j => listed.getD j false) tr H) v h2 ∧ h2 = foldH qt T (fun j => (fun j => listed.getD j false) j || j == i) tr H := by
      have same : heapKind qt T o.op ≠ 2 → foldH qt T (fun j => listed.getD j false) tr H = foldH qt T (fun j => (fun j => listed.getD j false) j || j == i) tr H := fun hk =>
        foldH_congr tr _ _ H fun j oj vj hj hjt hkj => by
          have : j ≠ i := fun e => by subst e; rw [hti] at hjt; cases hjt; exact hk hkj
          simp [this]
      by_cases hk0 : heapKind qt T o.op = 0
      · exact ⟨_, st1.heap hk0, same (by omega)⟩
      · have he : foldH qt T (fun j => decide (j < i)) tr H = foldH qt T (fun j => listed.getD j false) tr H := by
          refine foldH_congr tr _ _ H fun j oj vj hj hjt hkj => ?_
          have hoj := hget j oj vj hj hjt
          rcases Nat.lt_trichotomy j i with hji | rfl | hij
          · rcases ahead j oj hoj hji with h | h
            · simp only [h, hji, decide_true]
            · exact absurd ((apart_spec h).2.2.1 hkj) hk0
          · simp only [hLi, Nat.lt_irrefl, decide_false]
          · cases hlj : listed.getD j false with
            | false => simp; omega
            | true => exact absurd ((apart_spec (behind j oj hoj hij hlj)).2.2.2 hkj) hk0
        rw [he] at st1
        refine ⟨h, st1, ?_⟩
        by_cases hk2 : heapKind qt T o.op = 2
        · refine (foldH_add tr i (fun j => listed.getD j false) H hti hk2 fun j oj vj hj hij hjt hkj => ?_).symm
          have hoj := hget j oj vj hj hjt
          cases hlj : listed.getD j false with
          | false => rfl
          | true => exact absurd ((apart_spec (behind j oj hoj hij hlj)).2.2.2 hkj) hk0
        · rw [← same hk2]; exact st1.kept hk2
    obtain ⟨h2, st2, hh2⟩ := hheap
    refine st2.wpOp hT hM ho q hR fun cv W' ρ' l hv hr => ?_
    refine ih (listed.setIfInBounds i true) _ W' ρ' (by simp [hsz]) ?_ ?_ (hl.trans l) ?_ ?_
    · rw [hset]
      intro p op hp hlp e he hb
      simp only [Bool.or_eq_true, beq_iff_eq] at hlp ⊢
      rcases hlp with hlp | rfl
      · exact .inl (hcl p op hp hlp e he hb)
      · rw [ho] at hp; cases hp
        exact .inl (hedge e he hb)
    · have := count_set listed.toList i (by simp [hlt] at h1 ⊢; exact h1)
      rw [Array.toList_setIfInBounds]
      omega
    · rw [hset, foldE_add tr i (fun j => listed.getD j false) env hti hLi fun j oj vj hj hij hjt hlj x hx hd => ?_]
      · exact (q.mono l).put _ hv
      · have hoj := hget j oj vj hj hjt
        exact ((apart_spec (behind j oj hoj hij hlj)).1 x hd).2 hx
    · rw [hset, ← hh2]; exact hr

/-- A DRAWN REGION. -/
theorem wp_region_drawn {P : Program} {T : Tab} {M : Addr → Option AV} {ops : Array Oper} {id : Nat} {W0 W : World} {ρ : Asg} {env env' : List AV} {H H' : Heap} {a : Act} {Q : Exit → Act → World → Prop}
    (hm : P.follows .mixedOrders = true) (hT : TOK P T) (hM : MOK M W0) (hreg : regB qt T ops = true) (hrun : RunD qt P T M ops ops.toList env H env' H') (q : RelEnv ρ env a) (hR : Rel ρ H W0 W)
    (hQ : ∀ ρ' a' W', Le ρ ρ' → RelEnv ρ' env' a' → Rel ρ' H' W0 W' → Q .normal a' W') : (Code.region id ops true).wp P Q a W := by
  obtain ⟨tr, e1, e2, e3, e4⟩ := hrun.trace
  refine wp_region_any hm ?_
  have h0 : (fun j => (Array.replicate ops.size false).getD j false) = fun _ => false := by
    funext j
    simp [Array.getElem?_replicate]
    split <;> rfl
  refine wpAny_ok (ρ0 := ρ) (env := env) (H := H) hT hM hreg e1 e2 (fun ρ' a' W' l q' r' => hQ ρ' a' W' l (by rw [e3]; exact q') (by rw [e4]; exact r')) ops.size _ a _ ρ (by simp) ?_ ?_ (Le.refl ρ) ?_ ?_
  · rw [h0]; intro _ _ _ h; cases h
  · simp
  · rw [h0, foldE_none _ _ _ fun _ _ => rfl]; exact q
  · rw [h0, foldH_none _ _ _ fun _ _ _ _ _ _ => rfl]; exact hR.drawn _

/-! ### The text's order -/

def RunQ (P : Program) (T : Tab) (M : Addr → Option AV) (ops : Array Oper) : List Oper → List AV → Heap → (List AV → Heap → Prop) → Prop
  | [], env, H, Q => Q env H
  | o :: os, env, H, Q =>
    (wantedA ops env o = some true ∧ StepQ P T M o env H fun v H' => RunQ P T M ops os (putA env o.dst v) H' Q) ∨
    (wantedA ops env o = some false ∧ RunQ P T M ops os (putA env o.dst (.tup [])) H Q)

theorem RunQ.wp {P : Program} {T : Tab} {M : Addr → Option AV} {ops : Array Oper} {W0 : World} {Q : List AV → Heap → Prop} {QQ : Exit → Act → World → Prop} {ρ0 : Asg} (hT : TOK P T) (hM : MOK M W0)
    (hQ : ∀ env' H' ρ' a' W', Q env' H' → Le ρ0 ρ' → RelEnv ρ' env' a' → Rel ρ' H' W0 W' → QQ .normal a' W') :
    ∀ (os : List Oper) (env : List AV) (H : Heap) (a : Act) (W : World) (ρ : Asg), Le ρ0 ρ → RunQ P T M ops os env H Q → RelEnv ρ env a → Rel ρ H W0 W → wpList P ops QQ os a W
  | [], env, H, a, W, ρ, l, h, q, hR => hQ env H ρ a W h l q hR
  | o :: os, env, H, a, W, ρ, l, h, q, hR => by
    unfold wpList
    rcases h with ⟨hw, h⟩ | ⟨hw, h⟩
    · rw [wanted_ok q hw]
      simp only [if_true]
      exact .inl (h.wp hT hM q hR fun v H' cv W' ρ' hr l' hv hR' => RunQ.wp hT hM hQ os _ H' _ W' ρ' (l.trans l') hr ((q.mono l').put _ hv) hR')
    · rw [wanted_ok q hw]
      simp only [Bool.false_eq_true, if_false]
      exact RunQ.wp hT hM hQ os _ H _ W ρ l h (q.put _ (VR_undef ρ)) hR

theorem wp_region_text {P : Program} {T : Tab} {M : Addr → Option AV} {ops : Array Oper} {id : Nat} {W0 W : World} {ρ : Asg} {env : List AV} {H : Heap} {a : Act} {Q : List AV → Heap → Prop} {QQ : Exit → Act → World → Prop}
    (hT : TOK P T) (hM : MOK M W0) (hrun : RunQ P T M ops ops.toList env H Q) (q : RelEnv ρ env a) (hR : Rel ρ H W0 W)
    (hQ : ∀ env' H' ρ' a' W', Q env' H' → Le ρ ρ' → RelEnv ρ' env' a' → Rel ρ' H' W0 W' → QQ .normal a' W') : (Code.region id ops false).wp P QQ a W :=
  wp_region_list (RunQ.wp hT hM hQ ops.toList env H a W ρ (Le.refl ρ) hrun q hR)

end Go.Proofs.YtaaecodkdgkjoaaDoor.E

namespace Go.Proofs.YtaaecodkdgkjoaaDoor.E
open Go Go.RowKit
variable {qt : FuncId → Bool}

def exitOf : Out → Exit
  | .normal => .normal
  | .exit i => .exit i
  | .ret => .ret

/-- What code comes to. -/
def SemC (P : Program) (M : Addr → Option AV) (c : Code) (env : List AV) (H : Heap) (Q : Out → List AV → Heap → Prop) : Prop :=
  ∀ (W0 W : World) (ρ : Asg) (a : Act), MOK M W0 → Rel ρ H W0 W → RelEnv ρ env a →
    c.wp P (fun e a' W' => ∃ o env' H' ρ', e = exitOf o ∧ Q o env' H' ∧ Le ρ ρ' ∧ RelEnv ρ' env' a' ∧ Rel ρ' H' W0 W') a W

/-- What is asked of a program. -/
structure Sound (P : Program) (T : Tab) : Prop where
  tok : TOK P T
  mixed : P.follows .mixedOrders = true

section
variable {P : Program} {T : Tab} {M : Addr → Option AV} {env env' : List AV} {H H' : Heap} {Q : Out → List AV → Heap → Prop}

theorem SemC.mono {c : Code} {Q' : Out → List AV → Heap → Prop} (h : SemC P M c env H Q) (hq : ∀ o e h, Q o e h → Q' o e h) : SemC P M c env H Q' :=
  fun W0 W ρ a hM hR q => wp_mono (h W0 W ρ a hM hR q) fun _ _ _ ⟨o, env', H', ρ', h1, h2, h3⟩ => ⟨o, env', H', ρ', h1, hq _ _ _ h2, h3⟩

theorem SemC.skip (h : Q .normal env H) : SemC P M .skip env H Q := fun _ _ ρ _ _ hR q => wp_skip ⟨.normal, env, H, ρ, rfl, h, Le.refl ρ, q, hR⟩
theorem SemC.exit {id : Nat} (h : Q (.exit id) env H) : SemC P M (.exit id) env H Q := fun _ _ ρ _ _ hR q => wp_exit ⟨.exit id, env, H, ρ, rfl, h, Le.refl ρ, q, hR⟩
theorem SemC.ret (h : Q .ret env H) : SemC P M .ret env H Q := fun _ _ ρ _ _ hR q => wp_ret ⟨.ret, env, H, ρ, rfl, h, Le.refl ρ, q, hR⟩

theorem SemC.drawn (hS : Sound P T) {id : Nat} {ops : Array Oper} (hreg : regB qt T ops = true) (hrun : RunD qt P T M ops ops.toList env H env' H') (h : Q .normal env' H') : SemC P M (.region id ops true) env H Q :=
  fun _ _ _ _ hM hR q => wp_region_drawn hS.mixed hS.tok hM hreg hrun q hR fun ρ' _ _ l q' r' => ⟨.normal, env', H', ρ', rfl, h, l, q', r'⟩

theorem SemC.text (hS : Sound P T) {id : Nat} {ops : Array Oper} (hrun : RunQ P T M ops ops.toList env H fun e h => Q .normal e h) : SemC P M (.region id ops false) env H Q :=
  fun _ _ _ _ hM hR q => wp_region_text hS.tok hM hrun q hR fun env' H' ρ' _ _ h l q' r' => ⟨.normal, env', H', ρ', rfl, h, l, q', r'⟩

theorem SemC.seq {x y : Code} (h : SemC P M x env H fun o e h => match o with | .normal => SemC P M y e h Q | _ => Q o e h) : SemC P M (.seq x y) env H Q :=
  fun W0 W ρ a hM hR q => wp_seq (wp_mono (h W0 W ρ a hM hR q) fun e a' W' ⟨o, env', H', ρ', h1, h2, l, q', r'⟩ => by
    subst h1
    cases o with
    | normal => exact wp_mono (h2 W0 W' ρ' a' hM r' q') fun _ _ _ ⟨o, e2, H2, ρ2, k1, k2, l2, k3⟩ => ⟨o, e2, H2, ρ2, k1, k2, l.trans l2, k3⟩
    | exit i => exact ⟨.exit i, env', H', ρ', rfl, h2, l, q', r'⟩
    | ret => exact ⟨.ret, env', H', ρ', rfl, h2, l, q', r'⟩)

theorem SemC.cond {c : Operand} {x y : Code} (b : Bool) (hc : opv env c = .bool b) (h : SemC P M (if b then x else y) env H Q) : SemC P M (.cond c x y) env H Q :=
  fun W0 W ρ a hM hR q => by
    have he := q.eval c
    rw [hc] at he
    simp only [VR] at he
    exact wp_cond he (h W0 W ρ a hM hR q)

theorem SemC.scope {c : Code} (h : SemC P M c env H Q) : SemC P M (.scope c) env H Q :=
  fun W0 W ρ a hM hR q => wp_scope_straight (wp_mono (h W0 W ρ a hM hR q) fun e a' W' ⟨o, env', H', ρ', h1, h2⟩ => by
    subst h1
    cases o with
    | normal => exact ⟨.normal, env', H', ρ', rfl, h2⟩
    | exit i => exact ⟨.exit i, env', H', ρ', rfl, h2⟩
    | ret => exact ⟨.ret, env', H', ρ', rfl, h2⟩)
theorem SemC.label {l : Nat} (h : Q .normal env H) : SemC P M (.label l) env H Q := fun _ _ ρ _ _ hR q => wp_label ⟨.normal, env, H, ρ, rfl, h, Le.refl ρ, q, hR⟩

theorem SemC.block {id : Nat} {c : Code} (h : SemC P M c env H fun o e h => match o with | .exit i => if i = id then Q .normal e h else Q (.exit i) e h | _ => Q o e h) : SemC P M (.block id c) env H Q :=
  fun W0 W ρ a hM hR q => wp_block (wp_mono (h W0 W ρ a hM hR q) fun e a' W' ⟨o, env', H', ρ', h1, h2, l, q', r'⟩ => by
    subst h1
    cases o with
    | normal => exact ⟨.normal, env', H', ρ', rfl, h2, l, q', r'⟩
    | exit i =>
      simp only [exitOf, Exit.inBlock]
      simp only at h2
      split at h2
      · rename_i hi; rw [if_pos hi]; exact ⟨.normal, env', H', ρ', rfl, h2, l, q', r'⟩
      · rename_i hi; rw [if_neg hi]; exact ⟨.exit i, env', H', ρ', rfl, h2, l, q', r'⟩
    | ret => exact ⟨.ret, env', H', ρ', rfl, h2, l, q', r'⟩)

/-- A loop: an invariant that bears the number of rounds still to come. -/
theorem SemC.loop {c : Code} (I : Nat → List AV → Heap → Prop) (n0 : Nat) (h0 : I n0 env H)
    (round : ∀ n e h, I n e h → SemC P M c e h fun o e' h' => match o with | .normal => ∃ m, m < n ∧ I m e' h' | _ => Q o e' h') : SemC P M (.loop c) env H Q :=
  fun W0 W ρ a hM hR q => by
    refine wp_loop_ghost (fun n a' W' => ∃ e h ρ', I n e h ∧ Le ρ ρ' ∧ RelEnv ρ' e a' ∧ Rel ρ' h W0 W') n0 ⟨env, H, ρ, h0, Le.refl ρ, q, hR⟩ ?_
    intro n a1 W1 ⟨e, h, ρ1, hI, l1, q1, r1⟩
    refine wp_mono (round n e h hI W0 W1 ρ1 a1 hM r1 q1) fun ex a' W' ⟨o, env', H', ρ', h1, h2, l, q', r'⟩ => ?_
    subst h1
    cases o with
    | normal =>
      obtain ⟨m, hm, hI'⟩ := h2
      exact ⟨m, hm, env', H', ρ', hI', l1.trans l, q', r'⟩
    | exit i => exact ⟨.exit i, env', H', ρ', rfl, h2, l1.trans l, q', r'⟩
    | ret => exact ⟨.ret, env', H', ρ', rfl, h2, l1.trans l, q', r'⟩

/-! ### Functions -/

theorem resA_ok (hT : TOK P T) {W0 W : World} {ρ : Asg} {a : Act} (hM : MOK M W0) (hR : Rel ρ H W0 W) (q : RelEnv ρ env a) : ∀ (rs : List ResultVar) (l : List AV), resA T M env H rs = some l →
    ∃ vs : List Value, VRs ρ l vs ∧ (rs.mapM (m := Sem) fun r => match r with | .tmp t => (pure (a.tmps.getD t undef) : Sem Value) | .cell c t => do loadVar t (← asAddr (a.tmps.getD c undef))).run P W = .ok vs W
  | [], l, h => by
    simp only [resA] at h; cases h
    exact ⟨[], by simp only [VRs], by simp [Sem.run_pure]⟩
  | .tmp t :: rs, l, h => by
    simp only [resA] at h
    cases hr : resA T M env H rs with
    | none => rw [hr] at h; cases h
    | some l' =>
      rw [hr] at h; cases h
      obtain ⟨vs, h1, h2⟩ := resA_ok hT hM hR q rs l' hr
      refine ⟨a.tmps.getD t undef :: vs, by simp only [VRs]; exact ⟨_, _, rfl, q.eval (.tmp t), h1⟩, ?_⟩
      rw [List.mapM_cons]
      simp only [Sem.run_bind, Sem.run_pure, Result.andThen_ok]
      rw [h2]
      rfl
  | .cell c t :: rs, l, h => by
    simp only [resA] at h
    split at h
    · rename_i v hv
      cases hr : resA T M env H rs with
      | none => rw [hr] at h; cases h
      | some l' =>
        rw [hr] at h; cases h
        obtain ⟨vs, h1, h2⟩ := resA_ok hT hM hR q rs l' hr
        obtain ⟨ad, cv, e1, e2, e3⟩ := load_ok hT hR hM hv (q.eval (.tmp c))
        have e1' : a.tmps.getD c undef = .pointer (some ad) := e1
        refine ⟨cv :: vs, by simp only [VRs]; exact ⟨_, _, rfl, e3, h1⟩, ?_⟩
        rw [List.mapM_cons]
        have e3' : (do loadVar t (← asAddr (a.tmps.getD c undef)) : Sem Value).run P W = .ok cv W := by
          rw [Sem.run_bind, e1']
          exact e2
        simp only [Sem.run_bind] at e3' ⊢
        rw [e3']
        simp only [Result.andThen_ok]
        rw [h2]
        rfl
    · cases h

theorem results_ok (hT : TOK P T) {W0 W : World} {ρ : Asg} {a : Act} (hM : MOK M W0) (hR : Rel ρ H W0 W) (q : RelEnv ρ env a) {fn : Func} {l : List AV} (h : resA T M env H fn.results.toList = some l) :
    ∃ cv, (results fn a.tmps).run P W = .ok cv W ∧ VR ρ (resultA l) cv := by
  obtain ⟨vs, h1, h2⟩ := resA_ok hT hM hR q _ l h
  unfold results
  rw [Sem.run_bind]
  have e : (fn.results.mapM (m := Sem) fun r => match r with | .tmp t => (pure (a.tmps.getD t undef) : Sem Value) | .cell c t => do loadVar t (← asAddr (a.tmps.getD c undef))).run P W = .ok vs.toArray W := by
    rw [Array.mapM_eq_mapM_toList, Sem.run_map, h2]
    rfl
  refine ⟨if h : vs.toArray.size = 1 then vs.toArray[0] else .tuple vs.toArray, ?_, ?_⟩
  · have e2 := e
    exact (congrArg (fun r => Result.andThen r _) e2).trans (by simp only [Result.andThen_ok, Sem.run_pure])
  · cases l with
    | nil =>
      simp only [VRs] at h1; subst h1
      simp only [resultA, VR]
      exact ⟨#[], by simp, by simp only [VRs]⟩
    | cons x l =>
      simp only [VRs] at h1
      obtain ⟨y, ys, rfl, hx, hl⟩ := h1
      cases l with
      | nil =>
        simp only [VRs] at hl; subst hl
        simpa [resultA] using hx
      | cons x2 l2 =>
        have hl2 := hl
        simp only [VRs] at hl2
        obtain ⟨y2, ys2, rfl, _, _⟩ := hl2
        simp only [resultA, VR]
        refine ⟨(y :: y2 :: ys2).toArray, by simp, ?_⟩
        simp only [VRs]
        exact ⟨y, y2 :: ys2, by simp, hx, hl⟩

theorem SemF.body (hS : Sound P T) {k : FuncId} {fn : Func} {c : Code} {args : List AV} {Q : AV → Heap → Prop} (hf : P.funcs[k]? = some fn) (hname : (fn.name == "runtime.NumGoroutine") = false) (hb : fn.body = some c)
    (h : SemC P M c (args ++ List.replicate (fn.ntmps - args.length) (.tup [])) H fun o e h => (match o with | .exit _ => False | _ => True) ∧ ∃ l, resA T M e h fn.results.toList = some l ∧ Q (resultA l) h) : SemF P M k args H Q := by
  intro W0 W ρ cargs hM hR ha
  refine .inl ⟨?_, calls_of_wp hf hb ?_⟩
  · have h1 : fn.name ≠ "runtime.NumGoroutine" := by simpa using hname
    simp [callFunc, hf, h1, hb]
  · have hl := ha.length
    simp only [Array.length_toList] at hl
    have q : RelEnv ρ (args ++ List.replicate (fn.ntmps - args.length) (.tup [])) { tmps := cargs ++ Array.replicate (fn.ntmps - cargs.size) undef, defers := [] } := by
      refine ⟨rfl, ?_⟩
      simp only [Array.toList_append, Array.toList_replicate, hl]
      exact ha.append (VRs.replicate (VR_undef ρ) _)
    refine wp_mono (h W0 W ρ _ hM hR q) fun e a' W' ⟨o, env', H', ρ', h1, ⟨h2, l, h3, h4⟩, le, q', r'⟩ => ?_
    subst h1
    obtain ⟨cv, k1, k2⟩ := results_ok hS.tok hM r' q' h3
    cases o with
    | normal => exact ⟨q'.defers, cv, k1, resultA l, H', ρ', h4, le, k2, r'⟩
    | ret => exact ⟨q'.defers, cv, k1, resultA l, H', ρ', h4, le, k2, r'⟩
    | exit => exact h2.elim

end
end Go.Proofs.YtaaecodkdgkjoaaDoor.E

namespace Go.Proofs.YtaaecodkdgkjoaaDoor.E
open Go Go.RowKit
variable {qt : FuncId → Bool}

theorem MOK.later {M : Addr → Option AV} {ρ : Asg} {H : Heap} {W0 W : World} (hM : MOK M W0) (hR : Rel ρ H W0 W) : MOK M W := fun a v hv => by
  rcases hM a v hv with ⟨hs, h0, hz⟩ | ⟨cv, h1, h2⟩
  · left
    unfold plainB at h0
    have hlt : a.block < W0.heap.size := by
      rcases Nat.lt_or_ge a.block W0.heap.size with hh | hh
      · exact hh
      · rw [Array.getElem?_eq_none hh] at h0; cases h0
    refine ⟨hs, ?_, fun h => ?_⟩
    · unfold plainB
      rw [hR.below.block _ hlt]; exact h0
    · have := hz h
      unfold sizeB at this ⊢
      rw [hR.below.block _ hlt]; exact this
  · right
    refine ⟨cv, ?_, h2⟩
    have hlt : a.block < W0.heap.size := World.block_lt_of_cell? _ _ h1
    simp only [World.cell?] at h1 ⊢
    rw [hR.below.block _ hlt]; exact h1

theorem Rel.start (W : World) : Rel (fun _ _ => none) [] W W :=
  ⟨Below.refl _ _, (by intro b e l h; cases h), (by intro b b' e e' l l' h; cases h), (by intro b x h; simp at h)⟩

/-- What a call leaves alone still stands. -/
theorem Rel.later {ρ : Asg} {H : Heap} {W0 W W' : World} (h : Rel ρ H W0 W) (hb : Below W.heap.size W W') : Rel ρ H W0 W' := by
  refine ⟨h.below.trans (hb.mono h.below.size), fun b e l q => ?_, h.own, fun b x hx => ?_⟩
  · obtain ⟨h1, h2, h3⟩ := h.dom b e l q
    exact ⟨h1, h2, Nat.lt_of_lt_of_le h3 hb.size⟩
  · have hk := h.blk b x hx
    have hp : ∀ e l, ρ b e = some l → W'.heap[l.cb]? = W.heap[l.cb]? := fun e l q => hb.block _ (h.dom b e l q).2.2
    cases x with
    | c cells elem ep sep =>
      obtain ⟨h1, h2, h4, h5⟩ := hk
      exact ⟨h1, h2, h4, fun e l he q => (h5 e l he q).mono (Le.refl ρ) (hp e l q)⟩
    | it s pos =>
      obtain ⟨⟨l, h1, h2⟩, h3⟩ := hk
      exact ⟨⟨l, h1, by rw [hp 0 l h1]; exact h2⟩, h3⟩
    | dead => trivial

mutual
theorem flat_VR {ρ ρ' : Asg} : ∀ (x : AV) (v : Value), flat x = true → VR ρ x v → VR ρ' x v
  | .bool _, _, _, q => by simpa only [VR] using q
  | .int _ _, _, _, q => by simpa only [VR] using q
  | .float _ _, _, _, q => by simpa only [VR] using q
  | .cplx _ _ _, _, _, q => by simpa only [VR] using q
  | .str _, _, _, q => by simpa only [VR] using q
  | .nilptr, _, _, q => by simpa only [VR] using q
  | .ptr _ _ _, _, h, _ => by simp [flat] at h
  | .optr _, _, _, q => by simpa only [VR] using q
  | .nilslice, _, _, q => by simpa only [VR] using q
  | .slice _ _ _ _ _ _, _, h, _ => by simp [flat] at h
  | .oslice _ _ _, _, _, q => by simpa only [VR] using q
  | .func _, _, _, q => by simpa only [VR] using q
  | .nilfunc, _, _, q => by simpa only [VR] using q
  | .iface _ x, _, h, q => by
    simp only [VR] at q ⊢
    obtain ⟨y, rfl, hy⟩ := q
    exact ⟨y, rfl, flat_VR x y (by simpa [flat] using h) hy⟩
  | .nilIface, _, _, q => by simpa only [VR] using q
  | .agg l, _, h, q => by
    simp only [VR] at q ⊢
    obtain ⟨vs, rfl, hy⟩ := q
    exact ⟨vs, rfl, flats_VRs l _ (by simpa [flat] using h) hy⟩
  | .tup l, _, h, q => by
    simp only [VR] at q ⊢
    obtain ⟨vs, rfl, hy⟩ := q
    exact ⟨vs, rfl, flats_VRs l _ (by simpa [flat] using h) hy⟩
  | .other _, _, _, q => by simpa only [VR] using q
theorem flats_VRs {ρ ρ' : Asg} : ∀ (l : List AV) (vs : List Value), flats l = true → VRs ρ l vs → VRs ρ' l vs
  | [], _, _, q => by simpa only [VRs] using q
  | x :: xs, _, h, q => by
    simp only [VRs] at q ⊢
    simp only [flats, Bool.and_eq_true] at h
    obtain ⟨y, ys, rfl, h1, h2⟩ := q
    exact ⟨y, ys, rfl, flat_VR x y h.1 h1, flats_VRs xs ys h.2 h2⟩
end

/-- A call whose arguments and whose answer bear no place turns nothing of the caller's heap. -/
theorem SemF.pure {P : Program} {M : Addr → Option AV} {k : FuncId} {args : List AV} {Q : AV → Prop} (ha : flats args = true) (h : SemF P M k args [] fun v _ => flat v = true ∧ Q v) (H : Heap) : SemF P M k args H fun v h => Q v ∧ h = H := by
  intro W0 W ρ cargs hM hR hv
  refine (h W W (fun _ _ => none) cargs (hM.later hR) (Rel.start W) (flats_VRs _ _ ha hv)).mono ?_
  intro cv W' ⟨v, H', ρ', ⟨h1, h2⟩, _, h4, h5⟩
  exact ⟨v, H, ρ, ⟨h2, rfl⟩, Le.refl ρ, flat_VR v cv h1 h4, hR.later h5.below⟩

def codeB (qt : FuncId → Bool) (T : Tab) : Code → Bool
  | .region _ ops d => !d || regB qt T ops
  | .seq a b | .cond _ a b => codeB qt T a && codeB qt T b
  | .block _ c | .loop c | .scope c => codeB qt T c
  | _ => true

/-- What the evaluator's program must be. -/
structure GOK (P : Program) (G : Prg) (M : Addr → Option AV) : Prop where
  sound : Sound P G.T
  fn : ∀ k fn, G.F k = some fn → P.funcs[k]? = some fn
  name : ∀ k fn, G.F k = some fn → (fn.name == "runtime.NumGoroutine") = false
  reg : ∀ k fn c, G.F k = some fn → fn.body = some c → codeB G.Q G.T c = true
  ext : ∀ k f, G.X k = some f → ∀ args H v H', f args H = some (v, H') → SemF P M k args H fun v' h => v' = v ∧ h = H'

theorem GOK.of {P : Program} {T : Tab} {F : FuncId → Option Func} {Q : FuncId → Bool} {X : FuncId → Option (List AV → Heap → Option (AV × Heap))} {M : Addr → Option AV} (h1 : Sound P T) (h2 : ∀ k fn, F k = some fn → P.funcs[k]? = some fn)
    (h3 : ∀ k fn, F k = some fn → (fn.name == "runtime.NumGoroutine") = false) (h4 : ∀ k fn c, F k = some fn → fn.body = some c → codeB Q T c = true)
    (h5 : ∀ k f, X k = some f → ∀ args H v H', f args H = some (v, H') → SemF P M k args H fun v' h => v' = v ∧ h = H') : GOK P ⟨T, F, Q, X⟩ M := ⟨h1, h2, h3, h4, h5⟩

theorem evOps_ok {P : Program} {T : Tab} {M : Addr → Option AV} {call : CallT} {ops : Array Oper} (hcall : ∀ k args H v H', call k args H = some (v, H') → (SemF P M k args H fun v' h => v' = v ∧ h = H') ∧ (qt k = true → H' = H)) :
    ∀ (os : List Oper) (env : List AV) (H : Heap) (env' : List AV) (H' : Heap), evOps T M call ops os env H = some (env', H') → RunD qt P T M ops os env H env' H'
  | [], env, H, env', H', h => by simp only [evOps] at h; cases h; exact ⟨rfl, rfl⟩
  | o :: os, env, H, env', H', h => by
    simp only [evOps] at h
    split at h
    · rename_i hw
      split at h
      · rename_i v H1 hs
        refine ⟨v, H1, .inl ⟨hw, ?_⟩, evOps_ok hcall os _ _ _ _ h⟩
        unfold evStep at hs
        unfold StepD
        split at hs
        · rename_i f args ats ho
          split at hs
          · rename_i k hk
            have : callOf o.op = some (f, args.toList) := by rw [ho]; rfl
            simp only [this]
            exact ⟨k, hk, hcall _ _ _ _ _ hs⟩
          · cases hs
        · rename_i hno
          have : callOf o.op = none := by
            unfold callOf
            split
            · rename_i f args ats ho; exact absurd ho (hno f args ats)
            · rfl
          simp only [this]
          exact hs
      · cases h
    · rename_i hw
      exact ⟨.tup [], H, .inr ⟨hw, rfl, rfl⟩, evOps_ok hcall os _ _ _ _ h⟩
    · cases h

theorem RunD.toQ {P : Program} {T : Tab} {M : Addr → Option AV} {ops : Array Oper} : ∀ (os : List Oper) (env : List AV) (H : Heap) (env' : List AV) (H' : Heap) (Q : List AV → Heap → Prop), RunD qt P T M ops os env H env' H' → Q env' H' → RunQ P T M ops os env H Q
  | [], env, H, env', H', Q, h, hq => by obtain ⟨rfl, rfl⟩ := h; exact hq
  | o :: os, env, H, env', H', Q, h, hq => by
    obtain ⟨v, H1, hs, hr⟩ := h
    rcases hs with ⟨hw, hs⟩ | ⟨hw, rfl, rfl⟩
    · refine .inl ⟨hw, ?_⟩
      have := hs.toQ
      unfold StepQ at this ⊢
      cases hc : callOf o.op with
      | some fa =>
        simp only [hc] at this ⊢
        obtain ⟨k, hk, h⟩ := this
        exact ⟨k, hk, h.mono fun v' h' ⟨e1, e2⟩ => by subst e1 e2; exact RunD.toQ os _ _ _ _ Q hr hq⟩
      | none =>
        simp only [hc] at this ⊢
        obtain ⟨v', h', he, e1, e2⟩ := this
        subst e1 e2
        exact ⟨_, _, he, RunD.toQ os _ _ _ _ Q hr hq⟩
    · exact .inr ⟨hw, RunD.toQ os _ _ _ _ Q hr hq⟩

/-- A region whose operations come to one thing alone. -/
theorem SemC.region {P : Program} {T : Tab} {M : Addr → Option AV} {env env' : List AV} {H H' : Heap} {Q : Out → List AV → Heap → Prop} (hS : Sound P T) {id : Nat} {ops : Array Oper} {d : Bool} (hreg : codeB qt T (.region id ops d) = true) (hrun : RunD qt P T M ops ops.toList env H env' H') (h : Q .normal env' H') : SemC P M (.region id ops d) env H Q := by
  cases d with
  | false => exact SemC.text hS (hrun.toQ _ _ _ _ _ _ h)
  | true => exact SemC.drawn hS (by simpa [codeB] using hreg) hrun h

theorem quietX_ok {P : Program} {M : Addr → Option AV} {call : CallT} (hcall : ∀ k args H v H', call k args H = some (v, H') → SemF P M k args H fun v' h => v' = v ∧ h = H') :
    ∀ k args H v H', quietX call k args H = some (v, H') → (SemF P M k args H fun v' h => v' = v ∧ h = H') ∧ H' = H := by
  intro k args H v H' h
  unfold quietX at h
  split at h
  · rename_i ha
    split at h
    · rename_i v0 h0 hc
      split at h
      · rename_i hf
        cases h
        exact ⟨SemF.pure ha ((hcall _ _ _ _ _ hc).mono fun v' h ⟨h1, _⟩ => ⟨by rw [h1]; exact hf, h1⟩) H, rfl⟩
      · cases h
    · cases h
  · cases h

theorem callQ_ok {P : Program} {M : Addr → Option AV} {call : CallT} (hcall : ∀ k args H v H', call k args H = some (v, H') → SemF P M k args H fun v' h => v' = v ∧ h = H') :
    ∀ k args H v H', callQ qt call k args H = some (v, H') → (SemF P M k args H fun v' h => v' = v ∧ h = H') ∧ (qt k = true → H' = H) := by
  intro k args H v H' h
  unfold callQ at h
  split at h
  · obtain ⟨h1, h2⟩ := quietX_ok hcall _ _ _ _ _ h
    exact ⟨h1, fun _ => h2⟩
  · rename_i hq
    exact ⟨hcall _ _ _ _ _ h, fun h => absurd h hq⟩

theorem ev_ok {P : Program} {G : Prg} {M : Addr → Option AV} (hG : GOK P G M) : ∀ (n : Nat),
    (∀ c env H o env' H', codeB G.Q G.T c = true → evC G M n c env H = some (o, env', H') → SemC P M c env H fun o' e h => o' = o ∧ e = env' ∧ h = H') ∧
    (∀ k args H v H', evF G M n k args H = some (v, H') → SemF P M k args H fun v' h => v' = v ∧ h = H') := by
  intro n
  induction n using Nat.strongRecOn with
  | _ n0 ih =>
  cases n0 with
  | zero => exact ⟨fun c env H o env' H' _ h => by simp [evC] at h, fun k args H v H' h => by simp [evF] at h⟩
  | succ n =>
    have ihC := (ih n (Nat.lt_succ_self n)).1
    have ihF := (ih n (Nat.lt_succ_self n)).2
    refine ⟨fun c env H o env' H' hb h => ?_, fun k args H v H' h => ?_⟩
    · simp only [evC] at h
      split at h
      · cases h; exact .skip ⟨rfl, rfl, rfl⟩
      · split at h
        · rename_i rid ops d _ e1 H1 he
          cases h
          cases d with
          | true => exact .region (qt := G.Q) hG.sound hb (evOps_ok (callQ_ok ihF) _ _ _ _ _ he) ⟨rfl, rfl, rfl⟩
          | false => exact SemC.text hG.sound ((evOps_ok (qt := fun _ => false) (fun k args H v H' h => ⟨ihF _ _ _ _ _ h, by simp⟩) _ _ _ _ _ he).toQ _ _ _ _ _ _ ⟨rfl, rfl, rfl⟩)
        · cases h
      · simp only [codeB, Bool.and_eq_true] at hb
        split at h
        · rename_i e1 H1 he
          exact .seq ((ihC _ _ _ _ _ _ hb.1 he).mono fun o' e h' ⟨h1, h2, h3⟩ => by subst h1 h2 h3; exact ihC _ _ _ _ _ _ hb.2 h)
        · rename_i hno
          refine .seq ((ihC _ _ _ _ _ _ hb.1 h).mono fun o' e h' ⟨h1, h2, h3⟩ => ?_)
          subst h1 h2 h3
          cases o' with
          | normal => exact absurd h (hno _ _)
          | exit i => exact ⟨rfl, rfl, rfl⟩
          | ret => exact ⟨rfl, rfl, rfl⟩
      · simp only [codeB, Bool.and_eq_true] at hb
        split at h
        · rename_i he; exact .cond true he (ihC _ _ _ _ _ _ hb.1 h)
        · rename_i he; exact .cond false he (ihC _ _ _ _ _ _ hb.2 h)
        · cases h
      · simp only [codeB] at hb
        split at h
        · rename_i i e1 H1 he
          split at h
          · rename_i hi
            cases h
            exact .block ((ihC _ _ _ _ _ _ hb he).mono fun o' e h' ⟨h1, h2, h3⟩ => by subst h1 h2 h3; simp [hi])
          · rename_i hi
            cases h
            exact .block ((ihC _ _ _ _ _ _ hb he).mono fun o' e h' ⟨h1, h2, h3⟩ => by subst h1 h2 h3; simp [hi])
        · rename_i hno
          refine .block ((ihC _ _ _ _ _ _ hb h).mono fun o' e h' ⟨h1, h2, h3⟩ => ?_)
          subst h1 h2 h3
          cases o' with
          | normal => exact ⟨rfl, rfl, rfl⟩
          | exit i => exact absurd h (hno _ _ _)
          | ret => exact ⟨rfl, rfl, rfl⟩
      · rename_i b
        have hb' := hb
        simp only [codeB] at hb
        refine .loop (fun m e h => m ≤ n + 1 ∧ evC G M m (.loop b) e h = some (o, env', H')) (n + 1) ⟨Nat.le_refl _, by simp only [evC]; exact h⟩ ?_
        intro m e h1 ⟨hm, he⟩
        cases m with
        | zero => simp [evC] at he
        | succ m =>
          simp only [evC] at he
          split at he
          · rename_i e1 H1 he1
            refine ((ih m (by omega)).1 _ _ _ _ _ _ hb he1).mono fun o' e2 h2 ⟨k1, k2, k3⟩ => ?_
            subst k1 k2 k3
            exact ⟨m, Nat.lt_succ_self m, by omega, he⟩
          · rename_i hno
            refine ((ih m (by omega)).1 _ _ _ _ _ _ hb he).mono fun o' e2 h2 ⟨k1, k2, k3⟩ => ?_
            subst k1 k2 k3
            cases o' with
            | normal => exact absurd he (hno _ _)
            | exit i => exact ⟨rfl, rfl, rfl⟩
            | ret => exact ⟨rfl, rfl, rfl⟩
      · simp only [codeB] at hb
        exact .scope (ihC _ _ _ _ _ _ hb h)
      · cases h; exact .label ⟨rfl, rfl, rfl⟩
      · cases h; exact .exit ⟨rfl, rfl, rfl⟩
      · cases h; exact .ret ⟨rfl, rfl, rfl⟩
      · cases h
    · simp only [evF] at h
      split at h
      · rename_i f hf; exact hG.ext k f hf _ _ _ _ h
      · split at h
        · cases h
        · rename_i fn hfn
          split at h
          · cases h
          · rename_i c hc
            have hreg := hG.reg k fn c hfn hc
            have run : ∀ (H H1 : Heap) (o : Out) (e : List AV) (l : List AV), evC G M n c (args ++ List.replicate (fn.ntmps - args.length) (.tup [])) H = some (o, e, H1) → (∀ i, o ≠ .exit i) → resA G.T M e H1 fn.results.toList = some l →
                SemF P M k args H fun v' h => v' = resultA l ∧ h = H1 := fun H H1 o e l he ho hr =>
              SemF.body hG.sound (hG.fn k fn hfn) (hG.name k fn hfn) hc ((ihC _ _ _ _ _ _ hreg he).mono fun o' e' h' ⟨k1, k2, k3⟩ => by
                subst k1 k2 k3
                refine ⟨?_, l, hr, rfl, rfl⟩
                cases o' with
                | normal => trivial
                | ret => trivial
                | exit i => exact absurd rfl (ho i))
            have slow : ∀ {x : Option (Out × List AV × Heap)} , x = evC G M n c (args ++ List.replicate (fn.ntmps - args.length) (.tup [])) H →
                (match x with | some (.normal, env, H') | some (.ret, env, H') => (resA G.T M env H' fn.results.toList).map fun l => (resultA l, H') | _ => none) = some (v, H') → SemF P M k args H fun v' h => v' = v ∧ h = H' := by
              intro x hx hh
              split at hh
              · rename_i e1 H1
                cases hr : resA G.T M e1 H1 fn.results.toList with
                | none => rw [hr] at hh; cases hh
                | some l =>
                  rw [hr] at hh; simp only [Option.map_some, Option.some.injEq, Prod.mk.injEq] at hh
                  obtain ⟨rfl, rfl⟩ := hh
                  exact run _ _ _ _ _ hx.symm (by intro i; simp) hr
              · rename_i e1 H1
                cases hr : resA G.T M e1 H1 fn.results.toList with
                | none => rw [hr] at hh; cases hh
                | some l =>
                  rw [hr] at hh; simp only [Option.map_some, Option.some.injEq, Prod.mk.injEq] at hh
                  obtain ⟨rfl, rfl⟩ := hh
                  exact run _ _ _ _ _ hx.symm (by intro i; simp) hr
              · cases hh
            have fast : ∀ (o : Out) (e : List AV) (H1 : Heap), (∀ i, o ≠ .exit i) → flats args = true → evC G M n c (args ++ List.replicate (fn.ntmps - args.length) (.tup [])) [] = some (o, e, H1) →
                (match resA G.T M e H1 fn.results.toList with
                 | some l => if flat (resultA l) then some (resultA l, H) else
                   match evC G M n c (args ++ List.replicate (fn.ntmps - args.length) (.tup [])) H with
                   | some (.normal, env, H') | some (.ret, env, H') => (resA G.T M env H' fn.results.toList).map fun l => (resultA l, H')
                   | _ => none
                 | none => none) = some (v, H') → SemF P M k args H fun v' h => v' = v ∧ h = H' := by
              intro o e H1 ho hfl he hh
              split at hh
              · rename_i l hr
                split at hh
                · rename_i hflat
                  cases hh
                  exact SemF.pure hfl ((run _ _ _ _ _ he ho hr).mono fun v' h ⟨k1, _⟩ => ⟨by rw [k1]; exact hflat, k1⟩) H
                · exact slow rfl hh
              · cases hh
            split at h
            · rename_i hfl
              split at h
              · rename_i e1 H1 he; exact fast _ _ _ (by intro i; simp) hfl he h
              · rename_i e1 H1 he; exact fast _ _ _ (by intro i; simp) hfl he h
              · cases h
            · exact slow rfl h

end Go.Proofs.YtaaecodkdgkjoaaDoor.E

namespace Go.Proofs.YtaaecodkdgkjoaaDoor.E
open Go Go.RowKit Go.ChangeShapes Go.WideShapes Go.ChangeAt

/-- All that is known of old memory. -/
def oldM (W : World) : Addr → Option AV := fun a => if a.spot.isSome then (if plainB W a.block = true ∧ (a.spot = some 1 → sizeB W a.block = a.off) then some .nilptr else none) else (W.cell? a).map absC

theorem oldM_ok (W : World) : MOK (oldM W) W := fun a v h => by
  unfold oldM at h
  split at h
  · rename_i hs
    split at h
    · rename_i hp; exact .inl ⟨hs, hp⟩
    · cases h
  · cases hc : W.cell? a with
    | none => rw [hc] at h; cases h
    | some cv => rw [hc] at h; cases h; exact .inr ⟨cv, rfl, VR_absC _ cv⟩

theorem Below.frame {W W' : World} (h : Below W.heap.size W W') (may : MemPlace → Prop) : W.keptBut W' may := by
  refine ⟨h.os, h.output, fun i hi => ?_⟩
  rw [h.block i hi]
  cases W.heap[i]? with
  | none => rfl
  | some o => cases o <;> simp

/-- Kinds that an argument may have here: plain data. -/
def plainT (P : Program) : Nat → TypeId → Bool
  | 0, _ => false
  | n + 1, t =>
    match P.underlying t with
    | some .bool | some (.int _) | some (.float _) | some .string => true
    | some (.slice e) => decide (0 < P.cellsOf e) && plainT P n e
    | some (.struct fs) => fs.toList.all fun f => plainT P n f.type
    | some (.array _ e) => plainT P n e
    | _ => false

theorem mapM_same {α β : Type} {f g : α → Option β} : ∀ {l : List α} {r : List β}, l.mapM f = some r → (∀ x ∈ l, ∀ y ∈ r, f x = some y → g x = some y) → l.mapM g = some r
  | [], r, h, _ => by simpa using h
  | x :: l, r, h, hg => by
    simp only [List.mapM_cons, Option.bind_eq_bind, Option.bind_eq_some_iff, Option.pure_def, Option.some.injEq] at h ⊢
    obtain ⟨b, hb, r', hr', rfl⟩ := h
    exact ⟨b, hg x (List.mem_cons_self ..) b (List.mem_cons_self ..) hb, r', mapM_same hr' (fun y hy z hz => hg y (List.mem_cons_of_mem _ hy) z (List.mem_cons_of_mem _ hz)), rfl⟩

section
variable {H : Type} {enc : TypeId × Value → H} {P : Program} {W W' : World}

theorem cells_kept (hb : Below W.heap.size W W') {a : Addr} {n : Nat} {cs : List Value} (h : W.cells? 0 a n = some cs) : W'.cells? 0 a n = some cs := by
  cases n with
  | zero => simpa [World.cells?] using h
  | succ n =>
    have hlt := World.cells?_block h (Nat.succ_pos n)
    unfold World.cells? at h ⊢
    simp only [Nat.zero_le, if_true] at h ⊢
    refine mapM_same h fun i _ y _ hy => ?_
    have hlt2 : (a.add i).block < W.heap.size := by rw [ChangeShapes.block_add]; exact hlt
    unfold World.cell? at hy ⊢
    rw [hb.block _ hlt2]; exact hy

theorem trod_kept (hb : Below W.heap.size W W') : ∀ (n m : Nat) (t : TypeId) (cs : List Value) (x : DataW H × List MemPlace), plainT P m t = true → DataW.trod enc P W 0 (fun _ => true) true n t cs = some x →
    ∀ sp : Nat → Bool, (∀ p ∈ x.2, sp p.block = true) → DataW.trod enc P W' 0 sp true n t cs = some x := by
  intro n
  induction n with
  | zero => intro m t cs x _ h; simp [DataW.trod] at h
  | succ n ih =>
    intro m t cs x hm h sp hsp
    cases m with
    | zero => simp [plainT] at hm
    | succ m =>
      simp only [plainT] at hm
      simp only [DataW.trod] at h ⊢
      split at hm
      · rename_i hu; simp only [hu] at h ⊢; split at h <;> first | exact h | simp_all
      · rename_i hu; simp only [hu] at h ⊢; split at h <;> first | exact h | simp_all
      · rename_i hu; simp only [hu] at h ⊢; split at h <;> first | exact h | simp_all
      · rename_i hu; simp only [hu] at h ⊢; split at h <;> first | exact h | simp_all
      · rename_i e hu
        simp only [Bool.and_eq_true, decide_eq_true_eq] at hm
        simp only [hu] at h ⊢
        split at h
        all_goals try (simp_all only [Option.some.injEq, reduceCtorEq]; done)
        · rename_i e' a len cap hq
          obtain rfl : e = e' := by simpa using hq
          split at h
          · rename_i hc
            rw [if_pos hc]
            simp only [if_true, Option.bind_eq_some_iff, Option.map_eq_some_iff] at h ⊢
            obtain ⟨elems, he, rest, hr, rfl⟩ := h
            have key : ∀ (i : Nat) (y : DataW H × List MemPlace), y ∈ elems ++ rest → ((W.cells? 0 (a.add (i * P.cellsOf e)) (P.cellsOf e)).bind (DataW.trod enc P W 0 (fun _ => true) true n e)) = some y →
                ((W'.cells? 0 (a.add (i * P.cellsOf e)) (P.cellsOf e)).bind (DataW.trod enc P W' 0 sp true n e)) = some y := fun i y hy h => by
              simp only [Option.bind_eq_some_iff] at h ⊢
              obtain ⟨cs, h1, h2⟩ := h
              exact ⟨cs, cells_kept hb h1, ih m e cs y hm.2 h2 sp fun p hp => hsp p (List.mem_append_right _ (List.mem_flatMap.2 ⟨y, hy, hp⟩))⟩
            refine ⟨elems, mapM_same he fun i _ y hy hh => key i y (List.mem_append_left _ hy) hh, ?_⟩
            by_cases hs : sp a.block = true
            · rw [if_pos hs]
              exact ⟨rest, mapM_same hr fun j _ y hy hh => key (len + j) y (List.mem_append_right _ hy) hh, rfl⟩
            · have h0 : (elems.length + rest.length) * P.cellsOf e = 0 := by
                rcases Nat.eq_zero_or_pos ((elems.length + rest.length) * P.cellsOf e) with h | h
                · exact h
                · exact absurd (hsp (.cell a.block a.off) (List.mem_append_left _ (by
                    unfold MemPlace.row
                    exact List.mem_map.2 ⟨0, List.mem_range.2 h, by simp⟩))) hs
              have h1 : elems.length + rest.length = 0 := by
                rcases Nat.mul_eq_zero.1 h0 with h | h
                · exact h
                · omega
              have hr0 : rest = [] := List.eq_nil_of_length_eq_zero (by omega)
              rw [if_neg hs]
              exact ⟨[], rfl, by rw [hr0]⟩
          · cases h
      · rename_i fs hu
        simp only [hu] at h ⊢
        split at h
        · rename_i hl
          rw [if_pos hl]
          simp only [Option.map_eq_some_iff] at h ⊢
          obtain ⟨xs, hx, rfl⟩ := h
          refine ⟨xs, mapM_same hx fun f hf y hy hh => ?_, rfl⟩
          exact ih m f.type _ y (List.all_eq_true.1 hm f hf) hh sp fun p hp => hsp p (List.mem_flatMap.2 ⟨y, hy, hp⟩)
        · cases h
      · rename_i k e hu
        simp only [hu] at h ⊢
        split at h
        · rename_i hl
          rw [if_pos hl]
          simp only [Option.map_eq_some_iff] at h ⊢
          obtain ⟨xs, hx, rfl⟩ := h
          refine ⟨xs, mapM_same hx fun i _ y hy hh => ?_, rfl⟩
          exact ih m e _ y hm hh sp fun p hp => hsp p (List.mem_flatMap.2 ⟨y, hy, hp⟩)
        · cases h
      · cases hm
theorem trodAll_kept (hb : Below W.heap.size W W') (m : Nat) : ∀ (ts : List TypeId) (vs : List Value) (ds : List (DataW H)) (ps : List MemPlace), (∀ t ∈ ts, plainT P m t = true) → DataW.TrodAll enc P W 0 (fun _ => true) true ts vs ds ps →
    ∀ sp : Nat → Bool, (∀ p ∈ ps, sp p.block = true) → DataW.TrodAll enc P W' 0 sp true ts vs ds ps
  | [], vs, ds, ps, _, h, sp, hsp => by
    obtain ⟨rfl, rfl, rfl⟩ := trodAll_nil h
    exact rfl
  | t :: ts, vs, ds, ps, hm, h, sp, hsp => by
    obtain ⟨v, vs1, d, ds1, p, q, rfl, rfl, rfl, ⟨n, h1⟩, h2⟩ := trodAll_cons h
    exact ⟨p, q, ⟨n, trod_kept hb n m t _ _ (hm t (List.mem_cons_self ..)) h1 sp fun x hx => hsp x (List.mem_append_left _ hx)⟩,
      trodAll_kept hb m ts vs1 ds1 q (fun t ht => hm t (List.mem_cons_of_mem _ ht)) h2 sp fun x hx => hsp x (List.mem_append_right _ hx), rfl⟩

/-- A law that answers true and turns nothing of what was there: what its row asks. -/
theorem post_plain {f : Func} {s : ChangeSpec} {apart fresh handsOn again : Bool} {args : Array Value} {ds gs : List (DataW H)} {before : List MemPlace} {tb : TypeId} {m : Nat}
    (hW : DataW.Whole enc P f.params.toList s.vars apart W args.toList ds gs before) (hb : Below W.heap.size W W') (hp : (f.params.toList.all fun t => plainT P m t) = true) (hv : s.vars = [])
    (hr : f.resultTypes = #[tb]) (htb : P.underlying tb = some .bool) (hs1 : (s.fn H (ds ++ gs)).results = [.lit (.bool true)]) (hs2 : (s.fn H (ds ++ gs)).args = ds) (hs3 : (s.fn H (ds ++ gs)).vars = []) :
    s.post enc P f apart fresh handsOn again W args (.bool true) W' := by
  obtain ⟨p, q, hA, hV, hpq, hz, hn⟩ := hW
  have hW2 : DataW.Whole enc P f.params.toList s.vars apart W args.toList ds gs before := ⟨p, q, hA, hV, hpq, hz, hn⟩
  rw [hv] at hV
  obtain ⟨rfl, rfl⟩ := trodVars_none hV
  have hpl : ∀ t ∈ f.params.toList, plainT P m t = true := fun t ht => List.all_eq_true.1 hp t ht
  have hold : ∀ p ∈ before, (fun b => decide (b < W.heap.size)) p.block = true := fun p hp => by simpa using hW2.lt p hp
  have hres : ∀ (b : Nat) (sp : Nat → Bool) (hd : Bool), DataW.TrodAll enc P W' b sp hd f.resultTypes.toList ((Value.bool true).resultList f.resultTypes.size) (s.fn H (ds ++ [])).results [] := fun b sp hd => by
    rw [hs1, hr]
    exact trodAll_cons_mk (shut_bool htb _) trodAll_mk0
  have hargs : ∀ sp : Nat → Bool, (∀ x ∈ p, sp x.block = true) → DataW.TrodAll enc P W' 0 sp true f.params.toList args.toList (s.fn H (ds ++ [])).args p := fun sp hsp => by
    rw [hs2]
    exact trodAll_kept hb m _ _ _ _ hpl hA sp hsp
  have hvars : ∀ sp : Nat → Bool, DataW.TrodVars enc P W' sp s.vars (s.fn H (ds ++ [])).vars [] := fun sp => by rw [hv, hs3]; exact rfl
  have hbp : before = p := by rw [hpq, List.append_nil]
  refine ⟨ds, [], before, [], p, [], hW2, hres _ _ _, hargs _ (fun x hx => hold x (by rw [hbp]; exact hx)), hvars _, Below.frame hb _, fun _ => ⟨?_, _, _, ([] ++ p) ++ [], ⟨[] ++ p, [], trodAll_append (hargs _ (fun _ _ => rfl)) (hres _ _ _), hvars _, rfl, ?_, ?_⟩, ?_⟩⟩
  · exact ok_one hr rfl (okWide_bool_mk htb _)
  · intro b off hx
    have hx' : MemPlace.cell b off ∈ before := by rw [hbp]; simpa using hx
    have hlt : b < W.heap.size := hW2.lt _ hx'
    have := hz b off hx'
    unfold World.frozen? at this ⊢
    rw [hb.block _ hlt]; exact this
  · intro ha
    have := hn ha
    rw [hbp] at this
    simpa using this
  · intro x hx _
    rw [hbp]
    simpa using hx

end

end Go.Proofs.YtaaecodkdgkjoaaDoor.E

namespace Go.Proofs.YtaaecodkdgkjoaaDoor.E
open Go Go.RowKit
variable {qt : FuncId → Bool}

/-- What a call comes to; what is shown of a loop. (Names for them: the rewriter and the kernel are to see no program.) -/
abbrev CallR := FuncId → List AV → Heap → AV → Heap → Prop
abbrev LoopR := Code → List AV → Heap → (Out → List AV → Heap → Prop) → Prop

/-- What is tagged so stays as it is until its turn comes: the rewriter leaves it alone. -/
inductive Tag {α : Type} (a : α) : Type
  | mk

/-- A call that comes to one thing. -/
def Does (S : CallR) (k : FuncId) (args : List AV) (H : Heap) (K : AV → Heap → Prop) (_ : Tag K) : Prop :=
  ∃ v h, S k args H v h ∧ K v h

theorem Does.of {S : CallR} {k : FuncId} {args : List AV} {H : Heap} {K : AV → Heap → Prop} {t : Tag K} (v : AV) (h : Heap) (h1 : S k args H v h) (h2 : K v h) : Does S k args H K t := ⟨v, h, h1, h2⟩

def wOp (S : CallR) (T : Tab) (M : Addr → Option AV) (o : Op) (env : List AV) (H : Heap) (K : AV → Heap → Prop) (_ : Tag K) : Prop :=
  match o with
  | .call { callee := .value f, args, .. } =>
    match opv env f with
    | .func k => Does S k (args.toList.map (opv env)) H K .mk
    | _ => False
  | op => match evOp T M op (opv env) H with
    | some (v, h) => K v h
    | none => False

def wOps (S : CallR) (T : Tab) (M : Addr → Option AV) (ops : Array Oper) : List Oper → List AV → Heap → (K : List AV → Heap → Prop) → Tag K → Prop
  | [], env, H, K, _ => K env H
  | o :: os, env, H, K, _ =>
    match wantedA ops env o with
    | some true => wOp S T M o.op env H (fun v h => wOps S T M ops os (putA env o.dst v) h K .mk) .mk
    | some false => wOps S T M ops os (putA env o.dst (.tup [])) H K .mk
    | none => False

def wC (S : CallR) (L : LoopR) (T : Tab) (M : Addr → Option AV) : Code → List AV → Heap → (K : Out → List AV → Heap → Prop) → Tag K → Prop
  | .skip, env, H, K, _ => K .normal env H
  | .exit id, env, H, K, _ => K (.exit id) env H
  | .ret, env, H, K, _ => K .ret env H
  | .region _ ops _, env, H, K, _ => wOps S T M ops ops.toList env H (K .normal) .mk
  | .seq a b, env, H, K, _ => wC S L T M a env H (fun o e h => match o with | .normal => wC S L T M b e h K .mk | .exit i => K (.exit i) e h | .ret => K .ret e h) .mk
  | .cond c a b, env, H, K, _ =>
    match opv env c with
    | .bool true => wC S L T M a env H K .mk
    | .bool false => wC S L T M b env H K .mk
    | _ => False
  | .block id b, env, H, K, _ => wC S L T M b env H (fun o e h => match o with | .normal => K .normal e h | .exit i => if i = id then K .normal e h else K (.exit i) e h | .ret => K .ret e h) .mk
  | .loop b, env, H, K, _ => L (.loop b) env H K
  | _, _, _, _, _ => False

section
variable {S : CallR} {L : LoopR} {T : Tab} {M : Addr → Option AV} {env : List AV} {H : Heap} {K : Out → List AV → Heap → Prop} {KO : List AV → Heap → Prop} {KV : AV → Heap → Prop} {t : Tag K} {tO : Tag KO} {tV : Tag KV}

def isCallV : Op → Bool
  | .call { callee := .value _, .. } => true
  | _ => false

end

theorem putA_some (env : List AV) (d : Tmp) (v : AV) : putA env (some d) v = env.set d v := of_eq_true (eq_true rfl)
theorem putA_none (env : List AV) (v : AV) : putA env none v = env := of_eq_true (eq_true rfl)

end Go.Proofs.YtaaecodkdgkjoaaDoor.E

namespace Go.Proofs.YtaaecodkdgkjoaaDoor.E
open Go Go.RowKit Go.ChangeShapes Go.WideShapes
variable {qt : FuncId → Bool}

theorem CallsF.calls {P : Program} {k : FuncId} {fn : Func} {c : Code} {args : Array Value} {W : World} {R : Value → World → Prop} (hf : P.funcs[k]? = some fn) (hname : (fn.name == "runtime.NumGoroutine") = false) (hb : fn.body = some c) (h : CallsF P k args W R) :
    Calls P k args W fun | .returned v, W' => R v W' | _, _ => False := by
  rcases h with ⟨_, h⟩ | ⟨cv, W', h, _⟩
  · exact h
  · have h1 : fn.name ≠ "runtime.NumGoroutine" := by simpa using hname
    simp [callFunc, hf, h1, hb] at h

end Go.Proofs.YtaaecodkdgkjoaaDoor.E

namespace Go.Proofs.YtaaecodkdgkjoaaDoor.E
open Go Go.RowKit
variable {qt : FuncId → Bool}

/-- So many rounds. -/
def SemR (P : Program) (M : Addr → Option AV) (c : Code) (Q : Out → List AV → Heap → Prop) : Nat → List AV → Heap → Prop
  | 0, _, _ => False
  | n + 1, env, H => SemC P M c env H fun o e h => match o with | .normal => SemR P M c Q n e h | _ => Q o e h

theorem SemC.rounds {P : Program} {M : Addr → Option AV} {c : Code} {Q : Out → List AV → Heap → Prop} (n : Nat) {env : List AV} {H : Heap} (h : SemR P M c Q n env H) : SemC P M (.loop c) env H Q := by
  intro W0 W ρ a hM hR q
  refine wp_loop_rounds n ?_
  have key : ∀ n env H ρ1 a W, SemR P M c Q n env H → Le ρ ρ1 → RelEnv ρ1 env a → Rel ρ1 H W0 W →
      Code.rounds P c (fun e a' W' => ∃ o env' H' ρ', e = exitOf o ∧ Q o env' H' ∧ Le ρ ρ' ∧ RelEnv ρ' env' a' ∧ Rel ρ' H' W0 W') n a W := by
    intro n
    induction n with
    | zero => intro env H ρ1 a W h; exact h.elim
    | succ n ih =>
      intro env H ρ1 a W h l1 q1 r1
      refine wp_mono (h W0 W ρ1 a hM r1 q1) fun e a' W' ⟨o, env', H', ρ', h1, h2, l, q', r'⟩ => ?_
      subst h1
      cases o with
      | normal => exact ih env' H' ρ' a' W' h2 (l1.trans l) q' r'
      | exit i => exact ⟨.exit i, env', H', ρ', rfl, h2, l1.trans l, q', r'⟩
      | ret => exact ⟨.ret, env', H', ρ', rfl, h2, l1.trans l, q', r'⟩
  exact key n env H ρ a W h (Le.refl ρ) q hR

/-- H' says of a block what H says, or nothing. -/
def Weak (H H' : Heap) : Prop := H'.length = H.length ∧ ∀ (b : Nat) (x : HB), H'[b]? = some x → x = .dead ∨ H[b]? = some x

theorem Weak.refl (H : Heap) : Weak H H := ⟨rfl, fun _ _ h => .inr h⟩
theorem Weak.trans {A B C : Heap} (h : Weak A B) (k : Weak B C) : Weak A C := ⟨k.1.trans h.1, fun b x hx => (k.2 b x hx).elim .inl fun hb => h.2 b x hb⟩
theorem Weak.dead (H : Heap) (b : Nat) : Weak H (H.set b .dead) := ⟨by simp, fun b' x h => by
  rw [List.getElem?_set] at h
  split at h
  · split at h
    · cases h; exact .inl rfl
    · cases h
  · exact .inr h⟩

theorem Rel.weak {ρ : Asg} {H H' : Heap} {W0 W : World} (h : Rel ρ H W0 W) (hw : Weak H H') : Rel ρ H' W0 W :=
  ⟨h.below, fun b e l q => by rw [hw.1]; exact h.dom b e l q, h.own, fun b x hx => (hw.2 b x hx).elim (fun e => by subst e; trivial) fun hb => h.blk b x hb⟩

theorem SemF.weak {P : Program} {M : Addr → Option AV} {k : FuncId} {args : List AV} {H H1 H2 : Heap} {v : AV} (h : SemF P M k args H fun v' h => v' = v ∧ h = H1) (hw : Weak H1 H2) : SemF P M k args H fun v' h => v' = v ∧ h = H2 := by
  intro W0 W ρ cargs hM hR hv
  refine (h W0 W ρ cargs hM hR hv).mono ?_
  intro cv W' ⟨v', H', ρ', ⟨h1, h2⟩, h3, h4, h5⟩
  subst h1 h2
  exact ⟨_, H2, ρ', ⟨rfl, rfl⟩, h3, h4, h5.weak hw⟩

/-- So many rounds, in the rewriter's form. -/
def wR (S : CallR) (L : LoopR) (T : Tab) (M : Addr → Option AV) (b : Code) : Nat → List AV → Heap → (K : Out → List AV → Heap → Prop) → Tag K → Prop
  | 0, _, _, _, _ => False
  | n + 1, env, H, K, _ => wC S L T M b env H (fun o e h => match o with | .normal => wR S L T M b n e h K .mk | .exit i => K (.exit i) e h | .ret => K .ret e h) .mk

/-- What a walk may use of calls and loops. -/
structure Walk (P : Program) (T : Tab) (M : Addr → Option AV) (S : CallR) (L : LoopR) : Prop where
  call : ∀ k args H v h, SemF P M k args H (fun v' h' => v' = v ∧ h' = h) → S k args H v h
  loop : ∀ (b : Code) (env : List AV) (H : Heap) (K : Out → List AV → Heap → Prop) (I : Nat → List AV → Heap → Prop) (n0 : Nat), I n0 env H →
    (∀ n e h, I n e h → ∀ J : List AV → Heap → Prop, (∀ m e' h' h'', m < n → Weak h' h'' → I m e' h'' → J e' h') → wC S L T M b e h (fun o e' h' => match o with | .normal => J e' h' | .exit i => K (.exit i) e' h' | .ret => K .ret e' h') .mk) → L (.loop b) env H K
  rounds : ∀ n b env H K, wR S L T M b n env H K .mk → L (.loop b) env H K
  weak : ∀ (b : Code) (env : List AV) (H H' : Heap) (K : Out → List AV → Heap → Prop), Weak H H' → L (.loop b) env H' K → L (.loop b) env H K

end Go.Proofs.YtaaecodkdgkjoaaDoor.E

namespace Go.Proofs.YtaaecodkdgkjoaaDoor.E
open Go Go.RowKit
variable {qt : FuncId → Bool}

mutual
def ren (σ : Nat → Nat) : AV → AV
  | .ptr b e off => .ptr (σ b) e off
  | .slice b e off sz len cap => .slice (σ b) e off sz len cap
  | .iface t x => .iface t (ren σ x)
  | .agg l => .agg (rens σ l)
  | .tup l => .tup (rens σ l)
  | .bool b => .bool b
  | .int k n => .int k n
  | .float k b => .float k b
  | .cplx k a b => .cplx k a b
  | .str s => .str s
  | .nilptr => .nilptr
  | .optr a => .optr a
  | .nilslice => .nilslice
  | .oslice a l c => .oslice a l c
  | .func f => .func f
  | .nilfunc => .nilfunc
  | .nilIface => .nilIface
  | .other w => .other w
def rens (σ : Nat → Nat) : List AV → List AV
  | [] => []
  | x :: xs => ren σ x :: rens σ xs
end

def renB (σ : Nat → Nat) : HB → HB
  | .c cells el ep sep => .c (cells.map (ren σ)) el ep sep
  | .it s p => .it s p
  | .dead => .dead

mutual
theorem VR.ren {ρ ρ' : Asg} {σ : Nat → Nat} (h : ∀ b e l, ρ b e = some l → ρ' (σ b) e = some l) : ∀ (x : AV) (v : Value), VR ρ x v → VR ρ' (ren σ x) v
  | .bool _, _, q => by simpa only [VR, E.ren] using q
  | .int _ _, _, q => by simpa only [VR, E.ren] using q
  | .float _ _, _, q => by simpa only [VR, E.ren] using q
  | .cplx _ _ _, _, q => by simpa only [VR, E.ren] using q
  | .str _, _, q => by simpa only [VR, E.ren] using q
  | .nilptr, _, q => by simpa only [VR, E.ren] using q
  | .ptr b e off, v, q => by
      simp only [VR, E.ren] at q ⊢
      obtain ⟨l, h1, h2⟩ := q
      exact ⟨l, h _ _ _ h1, h2⟩
  | .optr _, _, q => by simpa only [VR, E.ren] using q
  | .nilslice, _, q => by simpa only [VR, E.ren] using q
  | .slice b e off sz len cap, v, q => by
      simp only [VR, E.ren] at q ⊢
      obtain ⟨l, a, c, h1, h2⟩ := q
      exact ⟨l, a, c, h _ _ _ h1, h2⟩
  | .oslice _ _ _, _, q => by simpa only [VR, E.ren] using q
  | .func _, _, q => by simpa only [VR, E.ren] using q
  | .nilfunc, _, q => by simpa only [VR, E.ren] using q
  | .iface t x, v, q => by
      simp only [VR, E.ren] at q ⊢
      obtain ⟨y, h1, h2⟩ := q
      exact ⟨y, h1, VR.ren h x y h2⟩
  | .nilIface, _, q => by simpa only [VR, E.ren] using q
  | .agg l, v, q => by
      simp only [VR, E.ren] at q ⊢
      obtain ⟨vs, h1, h2⟩ := q
      exact ⟨vs, h1, VRs.ren h l _ h2⟩
  | .tup l, v, q => by
      simp only [VR, E.ren] at q ⊢
      obtain ⟨vs, h1, h2⟩ := q
      exact ⟨vs, h1, VRs.ren h l _ h2⟩
  | .other _, _, q => by simpa only [VR, E.ren] using q
theorem VRs.ren {ρ ρ' : Asg} {σ : Nat → Nat} (h : ∀ b e l, ρ b e = some l → ρ' (σ b) e = some l) : ∀ (l : List AV) (vs : List Value), VRs ρ l vs → VRs ρ' (rens σ l) vs
  | [], vs, q => by simpa only [VRs, rens] using q
  | x :: xs, vs, q => by
      simp only [VRs, rens] at q ⊢
      obtain ⟨y, ys, h1, h2, h3⟩ := q
      exact ⟨y, ys, h1, VR.ren h x y h2, VRs.ren h xs ys h3⟩
end

mutual
theorem VR.unren {ρ ρ' : Asg} {σ : Nat → Nat} (h : ∀ b e l, ρ (σ b) e = some l → ρ' b e = some l) : ∀ (x : AV) (v : Value), VR ρ (E.ren σ x) v → VR ρ' x v
  | .bool _, _, q => by simpa only [VR, E.ren] using q
  | .int _ _, _, q => by simpa only [VR, E.ren] using q
  | .float _ _, _, q => by simpa only [VR, E.ren] using q
  | .cplx _ _ _, _, q => by simpa only [VR, E.ren] using q
  | .str _, _, q => by simpa only [VR, E.ren] using q
  | .nilptr, _, q => by simpa only [VR, E.ren] using q
  | .ptr b e off, v, q => by
      simp only [VR, E.ren] at q ⊢
      obtain ⟨l, h1, h2⟩ := q
      exact ⟨l, h _ _ _ h1, h2⟩
  | .optr _, _, q => by simpa only [VR, E.ren] using q
  | .nilslice, _, q => by simpa only [VR, E.ren] using q
  | .slice b e off sz len cap, v, q => by
      simp only [VR, E.ren] at q ⊢
      obtain ⟨l, a, c, h1, h2⟩ := q
      exact ⟨l, a, c, h _ _ _ h1, h2⟩
  | .oslice _ _ _, _, q => by simpa only [VR, E.ren] using q
  | .func _, _, q => by simpa only [VR, E.ren] using q
  | .nilfunc, _, q => by simpa only [VR, E.ren] using q
  | .iface t x, v, q => by
      simp only [VR, E.ren] at q ⊢
      obtain ⟨y, h1, h2⟩ := q
      exact ⟨y, h1, VR.unren h x y h2⟩
  | .nilIface, _, q => by simpa only [VR, E.ren] using q
  | .agg l, v, q => by
      simp only [VR, E.ren] at q ⊢
      obtain ⟨vs, h1, h2⟩ := q
      exact ⟨vs, h1, VRs.unren h l _ h2⟩
  | .tup l, v, q => by
      simp only [VR, E.ren] at q ⊢
      obtain ⟨vs, h1, h2⟩ := q
      exact ⟨vs, h1, VRs.unren h l _ h2⟩
  | .other _, _, q => by simpa only [VR, E.ren] using q
theorem VRs.unren {ρ ρ' : Asg} {σ : Nat → Nat} (h : ∀ b e l, ρ (σ b) e = some l → ρ' b e = some l) : ∀ (l : List AV) (vs : List Value), VRs ρ (rens σ l) vs → VRs ρ' l vs
  | [], vs, q => by simpa only [VRs, rens] using q
  | x :: xs, vs, q => by
      simp only [VRs, rens] at q ⊢
      obtain ⟨y, ys, h1, h2, h3⟩ := q
      exact ⟨y, ys, h1, VR.unren h x y h2, VRs.unren h xs ys h3⟩
end

theorem LocOK.unren {ρ ρ' : Asg} {σ : Nat → Nat} (h : ∀ b e l, ρ (σ b) e = some l → ρ' b e = some l) {W : World} {cells : List AV} {el : TypeId} {l : Loc} (q : LocOK ρ W (cells.map (ren σ)) el l) : LocOK ρ' W cells el l := by
  obtain ⟨h1, h2, cs, fr, h3, h4, h5, h6⟩ := q
  refine ⟨by simpa using h1, h2, cs, fr, h3, h4, h5, fun i v hi hv => ?_⟩
  obtain ⟨cv, q1, q2⟩ := h6 i (ren σ v) hi (by rw [List.getElem?_map, hv]; rfl)
  exact ⟨cv, q1, VR.unren h v cv q2⟩

theorem LocOK.ren {ρ ρ' : Asg} {σ : Nat → Nat} (h : ∀ b e l, ρ b e = some l → ρ' (σ b) e = some l) {W : World} {cells : List AV} {el : TypeId} {l : Loc} (q : LocOK ρ W cells el l) : LocOK ρ' W (cells.map (ren σ)) el l := by
  obtain ⟨h1, h2, cs, fr, h3, h4, h5, h6⟩ := q
  refine ⟨by simpa using h1, h2, cs, fr, h3, h4, h5, fun i v hi hv => ?_⟩
  rw [List.getElem?_map, Option.map_eq_some_iff] at hv
  obtain ⟨x, hx, rfl⟩ := hv
  obtain ⟨cv, q1, q2⟩ := h6 i x hi hx
  exact ⟨cv, q1, VR.ren h x cv q2⟩

theorem LocOK.grow {ρ ρ' : Asg} {W : World} {cells : List AV} {el : TypeId} {l : Loc} (h : LocOK ρ W cells el l) (hρ : Le ρ ρ') : LocOK ρ' W cells el l := h.mono hρ rfl

/-- THE BLOCKS THAT A CALL MADE, RENUMBERED (and what nobody needs any more, dropped). -/
theorem SemF.ren {P : Program} {M : Addr → Option AV} {k : FuncId} {args : List AV} {H H1 H2 : Heap} {v : AV} (σ : Nat → Nat) (h : SemF P M k args H fun v' h => v' = E.ren σ v ∧ h = H1)
    (hlen : H.length ≤ H2.length) (h12 : H2.length ≤ H1.length) (hid : ∀ i, i < H.length → σ i = i) (hin : ∀ i, σ i < H1.length → i < H2.length) (hinj : ∀ i j, σ i = σ j → i = j)
    (hblk : ∀ (b : Nat) (x : HB), H2[b]? = some x → x = .dead ∨ H1[σ b]? = some (renB σ x)) : SemF P M k args H fun v' h => v' = v ∧ h = H2 := by
  intro W0 W ρ cargs hM hR hv
  refine (h W0 W ρ cargs hM hR hv).mono ?_
  intro cv W' ⟨v', H', ρ1, ⟨h1, h2⟩, h3, h4, h5⟩
  subst h1 h2
  have un : ∀ b e l, ρ1 (σ b) e = some l → (fun b e => ρ1 (σ b) e : Asg) b e = some l := fun _ _ _ q => q
  refine ⟨v, H2, fun b e => ρ1 (σ b) e, ⟨rfl, rfl⟩, ?_, VR.unren un v cv h4, h5.below, ?_, ?_, ?_⟩
  · intro b e l q
    have := (hR.dom b e l q).1
    show ρ1 (σ b) e = some l
    rw [hid b this]; exact h3 _ _ _ q
  · intro b e l q
    have := h5.dom (σ b) e l q
    exact ⟨hin b this.1, this.2⟩
  · intro b b' e e' l l' q q' hc
    exact hinj _ _ (h5.own _ _ _ _ _ _ q q' hc)
  · intro b x hx
    rcases hblk b x hx with rfl | hb
    · trivial
    · have hk := h5.blk _ _ hb
      cases x with
      | c cells el ep sep =>
        obtain ⟨k1, ⟨l, k2, k3⟩, k4, k5⟩ := hk
        exact ⟨k1, ⟨l, k2, by simpa using k3⟩, fun e l q => k4 e l q, fun e l he q => (k5 e l he q).unren un⟩
      | it s p =>
        obtain ⟨⟨l, k1, k2⟩, k3⟩ := hk
        exact ⟨⟨l, k1, k2⟩, fun e l q => k3 e l q⟩
      | dead => trivial

/-- Memory that holds cells from a place on. -/
def At (M : Addr → Option AV) (a : Addr) (l : List AV) : Prop := ∀ (i : Nat) (v : AV), l[i]? = some v → Mc M (a.add i) = some v

end Go.Proofs.YtaaecodkdgkjoaaDoor.E

namespace Go.Proofs.YtaaecodkdgkjoaaDoor.E
open Go Go.RowKit
variable {qt : FuncId → Bool}

/-- The blocks of H, but for those in X, stand in H' as they stood. -/
structure Fr (X : List Nat) (H H' : Heap) : Prop where
  len : H.length ≤ H'.length
  same : ∀ b : Nat, b < H.length → b ∉ X → H'[b]? = H[b]?

theorem lt_of_get {H : Heap} {b : Nat} {x : HB} (h : H[b]? = some x) : b < H.length := (List.getElem?_eq_some_iff.1 h).1

namespace Fr
theorem refl (X : List Nat) (H : Heap) : Fr X H H := ⟨Nat.le_refl _, fun _ _ _ => rfl⟩
theorem trans {X Y : List Nat} {H H' H'' : Heap} (h : Fr X H H') (k : Fr Y H' H'') (hy : ∀ b ∈ Y, b ∈ X ∨ H.length ≤ b) : Fr X H H'' :=
  ⟨Nat.le_trans h.len k.len, fun b hb hx => by
    rw [k.same b (Nat.lt_of_lt_of_le hb h.len) fun hm => (hy b hm).elim hx fun h => absurd hb (by omega)]
    exact h.same b hb hx⟩
theorem get {X : List Nat} {H H' : Heap} (h : Fr X H H') {b : Nat} {x : HB} (hb : H[b]? = some x) (hx : b ∉ X) : H'[b]? = some x := by
  rw [h.same b (lt_of_get hb) hx]; exact hb
theorem app (H G : Heap) : Fr [] H (H ++ G) := ⟨by simp, fun b hb _ => List.getElem?_append_left hb⟩
theorem set (H : Heap) (b : Nat) (x : HB) : Fr [b] H (H.set b x) := ⟨by simp, fun b' _ hx => by
  rw [List.getElem?_set_ne]; rintro rfl; exact hx (List.mem_singleton.2 rfl)⟩
theorem mono {X Y : List Nat} {H H' : Heap} (h : Fr X H H') (hs : ∀ b ∈ X, b ∈ Y ∨ H.length ≤ b) : Fr Y H H' :=
  ⟨h.len, fun b hb hy => h.same b hb fun hm => (hs b hm).elim hy fun h => absurd hb (by omega)⟩
end Fr

/-- A slice that can be read, and its cells. -/
inductive Sees (M : Addr → Option AV) (H : Heap) (sz : Nat) : AV → List AV → Prop
  | nil : Sees M H sz .nilslice []
  | old (a : Addr) (n c : Nat) (cells : List AV) (h1 : cells.length = n * sz) (h2 : At M a cells) (h3 : n ≤ c) : Sees M H sz (.oslice a n c) cells
  | own (b e off n : Nat) (cap : Option Nat) (cs : List AV) (el : TypeId) (ep sep : Nat) (cells : List AV) (h1 : H[b]? = some (.c cs el ep sep)) (h2 : sep ≤ e) (h3 : off + n * sz ≤ cs.length) (h4 : cells = (cs.drop off).take (n * sz)) : Sees M H sz (.slice b e off sz n cap) cells

/-- The place of a slice's element. -/
def placeA (v : AV) (i sz : Nat) : AV :=
  match v with
  | .slice b e off _ _ _ => .ptr b e (off + i * sz)
  | .oslice a _ _ => .optr (a.add (i * sz))
  | _ => .nilptr

namespace Sees
variable {T : Tab} {M : Addr → Option AV} {H : Heap} {sz : Nat} {v : AV} {cells : List AV} {i j : TI} {t el : TypeId}

theorem len {n : Nat} (h : Sees M H sz v cells) (hn : cells.length = n * sz) (hz : 0 < sz) : lenA v = some n := by
  cases h with
  | nil => simp only [List.length_nil] at hn; rcases Nat.mul_eq_zero.1 hn.symm with h | h
           · subst h; rfl
           · omega
  | old a n' c _ h1 => rw [h1] at hn; rw [Nat.eq_of_mul_eq_mul_right hz hn]; rfl
  | own b e off n' cap cs el ep sep _ h1 h2 h3 h4 =>
    have : cells.length = n' * sz := by rw [h4]; simp only [List.length_take, List.length_drop]; omega
    rw [this] at hn; rw [Nat.eq_of_mul_eq_mul_right hz hn]; rfl

theorem lenB {n : Nat} {ts : List TypeId} (h : Sees M H sz v cells) (hn : cells.length = n * sz) (hz : 0 < sz) (ht : T t = some i) (hi : i.und = .slice el) : E.lenB T (t :: ts) v = some (.int .i64 n) := by
  have := h.len hn hz
  cases h with
  | nil => simp only [lenA, Option.some.injEq] at this; subst this; simp only [E.lenB, ht, hi]; rfl
  | old a n' c _ h1 => simp only [lenA, Option.some.injEq] at this; subst this; simp only [E.lenB, ht, hi]
  | own b e off n' cap cs el ep sep _ h1 h2 h3 h4 => simp only [lenA, Option.some.injEq] at this; subst this; simp only [E.lenB, ht, hi]

theorem index {k : IntKind} {n : Int} (h : Sees M H sz v cells) (h0 : 0 ≤ n) (hn : n.toNat * sz < cells.length) (hz : sz ≠ 0) (ht : T t = some i) (hi : i.und = .slice el) (he : T el = some j) (hj : j.size = sz) : indexAddrA T H t v (.int k n) = some (placeA v n.toNat sz) := by
  cases h with
  | nil => simp at hn
  | old a n' c _ h1 h2 =>
    have : n < n' := by
      have : n.toNat < n' := by rw [h1] at hn; exact Nat.lt_of_mul_lt_mul_right hn
      omega
    simp only [indexAddrA, ht, hi, he]
    rw [if_pos ⟨h0, this⟩, hj]; rfl
  | own b e off n' cap cs el ep sep _ h1 h2 h3 h4 =>
    have hl : cells.length = n' * sz := by rw [h4]; simp only [List.length_take, List.length_drop]; omega
    have : n < n' := by
      have : n.toNat < n' := by rw [hl] at hn; exact Nat.lt_of_mul_lt_mul_right hn
      omega
    simp only [indexAddrA, ht, hi, he]
    rw [if_pos ⟨hj, hz, h0, this⟩]; rfl

theorem load {n : Nat} {x : AV} (h : Sees M H 1 v cells) (hx : cells[n]? = some x) (he : T el = some j) (hj : isAggT j.und = false) : loadA T M H el (placeA v n 1) = some x := by
  cases h with
  | nil => simp at hx
  | old a n' c _ h1 h2 =>
    have := h2 n x hx
    simp only [loadA, he, hj, placeA, Nat.mul_one, readN]
    rw [if_neg (by simp)]
    rw [show List.range 1 = [0] from rfl]
    simp only [List.mapM_cons, List.mapM_nil]
    have e : ((a.add n).add 0) = a.add n := by unfold Addr.add; cases a with | mk b o s => cases s <;> simp
    rw [e, this]; rfl
  | own b e off n' cap cs el' ep sep _ h1 h2 h3 h4 =>
    have hlt : n < n' * 1 := by
      have := (List.getElem?_eq_some_iff.1 hx).1
      rw [h4, List.length_take] at this; omega
    have hv : cs[off + n]? = some x := by
      rw [h4, List.getElem?_take, if_pos hlt, List.getElem?_drop] at hx; exact hx
    have hl := (List.getElem?_eq_some_iff.1 hv).1
    have hr : readN M H (.ptr b e (off + n)) 1 = some [x] := by
      have hd : (cs.drop (off + n)).take 1 = [x] := by
        rw [List.drop_eq_getElem_cons hl]
        have h9 := (List.getElem?_eq_some_iff.1 hv).2
        rw [h9]; rfl
      simp only [readN, h1]
      split
      · rw [if_pos (by omega), hd]
      · rw [if_pos ⟨h2, trivial⟩, hv]; rfl
    simp only [loadA, he, hj, placeA, Nat.mul_one, hr]
    rw [if_neg (by simp)]

theorem mono {X : List Nat} {H' : Heap} (h : Sees M H sz v cells) (hf : Fr X H H') (hx : ∀ b e off s n c, v = .slice b e off s n c → b ∉ X) : Sees M H' sz v cells := by
  cases h with
  | nil => exact .nil
  | old a n c _ h1 h2 h3 => exact .old a n c _ h1 h2 h3
  | own b e off n cap cs el ep sep _ h1 h2 h3 h4 => exact .own b e off n cap cs el ep sep _ (hf.get h1 (hx _ _ _ _ _ _ rfl)) h2 h3 h4

end Sees

/-- A slice that starts its block and may grow: nil, of a block of its own, or an empty literal. -/
inductive Rep (el : TypeId) (sz : Nat) (H : Heap) : AV → Option Nat → List AV → Prop
  | nil : Rep el sz H .nilslice none []
  | own (b ep sep n : Nat) (cells : List AV) (h1 : H[b]? = some (.c cells el ep sep)) (h2 : sep ≤ ep) (h3 : cells.length = n * sz) : Rep el sz H (.slice b ep 0 sz n none) (some b) cells
  | empty (b ep sep : Nat) (h1 : H[b]? = some (.c [] el ep sep)) (h2 : sep ≤ ep) : Rep el sz H (.slice b ep 0 sz 0 (some 0)) (some b) []

namespace Rep
variable {T : Tab} {M : Addr → Option AV} {H : Heap} {sz : Nat} {v : AV} {o : Option Nat} {cells : List AV} {i j : TI} {t el : TypeId}

theorem lt (h : Rep el sz H v o cells) {b : Nat} (hb : o = some b) : b < H.length := by
  cases h with
  | nil => cases hb
  | own b' ep sep n _ h1 h2 h3 => cases hb; exact lt_of_get h1
  | empty b' ep sep h1 h2 => cases hb; exact lt_of_get h1

theorem mono {X : List Nat} {H' : Heap} (h : Rep el sz H v o cells) (hf : Fr X H H') (hx : ∀ b, o = some b → b ∉ X) : Rep el sz H' v o cells := by
  cases h with
  | nil => exact .nil
  | own b ep sep n _ h1 h2 h3 => exact .own b ep sep n _ (hf.get h1 (hx _ rfl)) h2 h3
  | empty b ep sep h1 h2 => exact .empty b ep sep (hf.get h1 (hx _ rfl)) h2

/-- The block is the same, or a new one. -/
def New (H : Heap) (o o' : Option Nat) : Prop := o' = o ∨ ∃ b, o' = some b ∧ H.length ≤ b

theorem append {t2 : TypeId} {i2 : TI} {ts : List TypeId} {x : AV} {n : Nat} {new : List AV} (h : Rep el sz H v o cells) (ht : T t = some i) (hi : i.und = .slice el) (ht2 : T t2 = some i2) (hi2 : isIntT i2.und = false) (he : T el = some j) (hj : j.size = sz) (hz : sz ≠ 0) (hb : j.bytes ≠ 0) (hzero : (cellsOf (absC j.zero)).length = sz)
    (hx : lenA x = some n) (hc : sliceCells M H x sz = some new) (hcell : new.all isCell = true) (hn : new.length = n * sz) (hcells : cells.all isCell = true) (room : (cells.length + new.length) * j.bytes ≤ sz * 140737488355328) :
    ∃ v' o' H', appendA T M H (t :: t2 :: ts) v x = some (v', H') ∧ Rep el sz H' v' o' (cells ++ new) ∧ Fr o.toList H H' ∧ New H o o' := by
  have hg : ¬ (j.size = 0 ∨ j.bytes = 0 ∨ (cellsOf (absC j.zero)).length ≠ j.size ∨ new.all isCell ≠ true ∨ new.length ≠ n * j.size) := by
    rw [hj]; simp [hz, hb, hzero, hcell, hn]
  have hroom : ∀ m, cells.length = m * sz → (m + n) * j.bytes ≤ 140737488355328 := fun m hm => by
    rw [hm, hn, ← Nat.add_mul] at room
    have h5 : sz * ((m + n) * j.bytes) ≤ sz * 140737488355328 := by
      calc sz * ((m + n) * j.bytes) = (m + n) * sz * j.bytes := by rw [Nat.mul_comm (m + n) sz, Nat.mul_assoc]
        _ ≤ _ := room
    exact Nat.le_of_mul_le_mul_left h5 (Nat.pos_of_ne_zero hz)
  simp only [appendA, ht, ht2, hi2, hi, he, hx, hj, hc, if_neg Bool.false_ne_true]
  rw [hj] at hg
  rw [if_neg hg]
  by_cases h0 : n = 0
  · subst h0
    have hnew : new = [] := List.eq_nil_of_length_eq_zero (by omega)
    subst hnew
    rw [if_pos rfl, List.append_nil]
    refine ⟨v, o, H, ?_, h, Fr.refl _ _, .inl rfl⟩
    cases h <;> rfl
  · rw [if_neg h0]
    cases h with
    | nil =>
      have := hroom 0 (by simp)
      simp only [Nat.zero_add] at this
      refine ⟨_, _, _, if_pos this, ?_, Fr.app _ _, .inr ⟨H.length, rfl, Nat.le_refl _⟩⟩
      exact .own H.length 0 0 n _ (by simp) (Nat.le_refl _) (by simpa using hn)
    | own b ep sep m _ h1 h2 h3 =>
      have := hroom m h3
      refine ⟨.slice b (ep + 1) 0 sz (m + n) none, some b, H.set b (.c (cells.take (m * sz) ++ new) el (ep + 1) (if ep = ep ∧ m * sz = cells.length then sep else ep + 1)), ?_, ?_, Fr.set _ _ _, .inl rfl⟩
      · simp only [ne_eq, not_true_eq_false, or_self, if_false, h1]
        rw [if_pos ⟨h2, trivial, by omega, this⟩]
      · have e : cells.take (m * sz) = cells := by rw [← h3]; simp
        rw [e, if_pos ⟨by first | rfl | trivial, h3.symm⟩]
        exact .own b (ep + 1) sep (m + n) _ (by rw [List.getElem?_set_self (lt_of_get h1)]) (by omega) (by rw [List.length_append, h3, hn, Nat.add_mul])
    | empty b ep sep h1 h2 =>
      have := hroom 0 (by simp)
      simp only [Nat.zero_add] at this
      refine ⟨.slice H.length 0 0 sz n none, some H.length, H ++ [.c new el 0 0], ?_, ?_, (Fr.app _ _).mono (by simp), .inr ⟨H.length, rfl, Nat.le_refl _⟩⟩
      · simp only [ne_eq, not_true_eq_false, if_false, h1, Nat.zero_add]
        rw [if_neg (by omega)]
        simp only [sliceCells, if_true, List.length_nil, Nat.zero_mul, List.all_nil, List.nil_append, true_and]
        rw [if_pos this]
      · exact .own H.length 0 0 n _ (by simp) (Nat.le_refl _) (by simpa using hn)

/-- One more round: what one slice owns is not what another owns. -/
theorem New.ne {o o' : Option Nat} (h : New H o o') {b : Nat} (hb : b < H.length) (hne : o ≠ some b) : o' ≠ some b := by
  rcases h with rfl | ⟨c, rfl, hc⟩
  · exact hne
  · intro e; cases e; omega
end Rep

end Go.Proofs.YtaaecodkdgkjoaaDoor.E

namespace Go.Proofs.YtaaecodkdgkjoaaDoor.E
open Go Go.RowKit
variable {qt : FuncId → Bool}

/-- As the definitions that they copy; the rewriter unfolds them at a known operand alone. -/
def lenK (T : Tab) (ts : List TypeId) (x : AV) : Option AV :=
  match ts with
  | t :: _ =>
    match T t with
    | some i =>
      match i.und, x with
      | .array n _, _ => some (.int .i64 n)
      | .string, .str s => some (.int .i64 s.length)
      | .slice _, x => match x with
        | .nilslice => some (.int .i64 0)
        | .slice _ _ _ _ len _ => some (.int .i64 len)
        | .oslice _ len _ => some (.int .i64 len)
        | _ => none
      | _, _ => none
    | none => none
  | _ => none

def indexK (T : Tab) (H : Heap) (t : TypeId) (x ix : AV) : Option AV :=
  match T t, ix with
  | some i, .int _ n =>
    match i.und with
    | .array len e =>
      match T e with
      | none => none
      | some j => if j.size ≠ 0 ∧ 0 ≤ n ∧ n < len then
          match x with
          | .ptr b ep off => if ptrOK H b ep (off + n.toNat * j.size) then some (.ptr b ep (off + n.toNat * j.size)) else none
          | .optr a => some (.optr (a.add (n.toNat * j.size)))
          | _ => none
        else none
    | .slice e =>
      match T e with
      | none => none
      | some j =>
        match x with
        | .slice b ep off sz len _ => if j.size = sz ∧ sz ≠ 0 ∧ 0 ≤ n ∧ n < len then some (.ptr b ep (off + n.toNat * sz)) else none
        | .oslice a len _ => if 0 ≤ n ∧ n < len then some (.optr (a.add (n.toNat * j.size))) else none
        | _ => none
    | _ => none
  | _, _ => none

def loadK (T : Tab) (M : Addr → Option AV) (H : Heap) (t : TypeId) (p : AV) : Option AV :=
  match T t with
  | none => none
  | some i =>
    if isAggT i.und then (readN M H p i.size).map .agg
    else match readN M H p 1 with
      | some [v] => some v
      | _ => none

section
variable {T : Tab} {M : Addr → Option AV} {H : Heap} {t : TypeId} {ts : List TypeId} {b e off sz n m : Nat} {c : Option Nat} {a : Addr} {ix : AV} {s : List UInt8} {l : List AV}
theorem lenB_nil : lenB T ts .nilslice = lenK T ts .nilslice := of_eq_true (eq_true rfl)
theorem lenB_slice : lenB T ts (.slice b e off sz n c) = lenK T ts (.slice b e off sz n c) := of_eq_true (eq_true rfl)
theorem lenB_oslice : lenB T ts (.oslice a n m) = lenK T ts (.oslice a n m) := of_eq_true (eq_true rfl)
theorem lenB_str : lenB T ts (.str s) = lenK T ts (.str s) := of_eq_true (eq_true rfl)
theorem lenB_agg : lenB T ts (.agg l) = lenK T ts (.agg l) := of_eq_true (eq_true rfl)
theorem indexAddrA_slice : indexAddrA T H t (.slice b e off sz n c) ix = indexK T H t (.slice b e off sz n c) ix := of_eq_true (eq_true rfl)
theorem indexAddrA_oslice : indexAddrA T H t (.oslice a n m) ix = indexK T H t (.oslice a n m) ix := of_eq_true (eq_true rfl)
theorem indexAddrA_ptr : indexAddrA T H t (.ptr b e off) ix = indexK T H t (.ptr b e off) ix := of_eq_true (eq_true rfl)
theorem indexAddrA_optr : indexAddrA T H t (.optr a) ix = indexK T H t (.optr a) ix := of_eq_true (eq_true rfl)
theorem loadA_ptr : loadA T M H t (.ptr b e off) = loadK T M H t (.ptr b e off) := of_eq_true (eq_true rfl)
theorem loadA_optr : loadA T M H t (.optr a) = loadK T M H t (.optr a) := of_eq_true (eq_true rfl)
end

theorem wrap_i64 {x : Int} (h1 : -9223372036854775808 ≤ x) (h2 : x < 9223372036854775808) : IntKind.i64.wrap x = x := by
  have h : IntKind.i64.wrap x = if true && decide (x % 18446744073709551616 ≥ 9223372036854775808) then x % 18446744073709551616 - 18446744073709551616 else x % 18446744073709551616 := rfl
  rw [h]
  split
  · rename_i h3
    simp only [Bool.true_and, decide_eq_true_eq] at h3
    omega
  · rename_i h3
    simp only [Bool.true_and, decide_eq_true_eq] at h3
    omega
theorem wrap_u64 {x : Int} (h1 : 0 ≤ x) (h2 : x < 18446744073709551616) : IntKind.u64.wrap x = x := by
  have h : IntKind.u64.wrap x = x % 18446744073709551616 := rfl
  omega
end Go.Proofs.YtaaecodkdgkjoaaDoor.E

namespace Go.Proofs.YtaaecodkdgkjoaaDoor.E
open Go Go.RowKit
variable {qt : FuncId → Bool}

/-- What is shown of a call, of a loop. -/
abbrev CallX := FuncId → List AV → Heap → (K : AV → Heap → Prop) → Tag K → Prop
abbrev LoopX := Code → List AV → Heap → (K : Out → List AV → Heap → Prop) → Tag K → Prop

/-- A call that comes to one thing. -/
def Ex (qt : FuncId → Bool) (C : CallX) : CallX := fun k args H K _ => ∃ v h, C k args H (fun v' h' => v' = v ∧ h' = h) .mk ∧ (qt k = true → h = H) ∧ K v h

def xOp (C : CallX) (T : Tab) (M : Addr → Option AV) (o : Op) (env : List AV) (H : Heap) (K : AV → Heap → Prop) (_ : Tag K) : Prop :=
  match o with
  | .call { callee := .value f, args, .. } =>
    match opv env f with
    | .func k => C k (args.toList.map (opv env)) H K .mk
    | _ => False
  | op => match evOp T M op (opv env) H with
    | some (v, h) => K v h
    | none => False

def xOps (C : CallX) (T : Tab) (M : Addr → Option AV) (ops : Array Oper) : List Oper → List AV → Heap → (K : List AV → Heap → Prop) → Tag K → Prop
  | [], env, H, K, _ => K env H
  | o :: os, env, H, K, _ =>
    match wantedA ops env o with
    | some true => xOp C T M o.op env H (fun v h => xOps C T M ops os (putA env o.dst v) h K .mk) .mk
    | some false => xOps C T M ops os (putA env o.dst (.tup [])) H K .mk
    | none => False

def xC (qt : FuncId → Bool) (C : CallX) (L : LoopX) (T : Tab) (M : Addr → Option AV) : Code → List AV → Heap → (K : Out → List AV → Heap → Prop) → Tag K → Prop
  | .skip, env, H, K, _ => K .normal env H
  | .exit id, env, H, K, _ => K (.exit id) env H
  | .ret, env, H, K, _ => K .ret env H
  | .region _ ops true, env, H, K, _ => xOps (Ex qt C) T M ops ops.toList env H (K .normal) .mk
  | .region _ ops false, env, H, K, _ => xOps C T M ops ops.toList env H (K .normal) .mk
  | .seq a b, env, H, K, _ => xC qt C L T M a env H (fun o e h => match o with | .normal => xC qt C L T M b e h K .mk | .exit i => K (.exit i) e h | .ret => K .ret e h) .mk
  | .cond c a b, env, H, K, _ =>
    match opv env c with
    | .bool true => xC qt C L T M a env H K .mk
    | .bool false => xC qt C L T M b env H K .mk
    | _ => False
  | .block id b, env, H, K, _ => xC qt C L T M b env H (fun o e h => match o with | .normal => K .normal e h | .exit i => if i = id then K .normal e h else K (.exit i) e h | .ret => K .ret e h) .mk
  | .loop b, env, H, K, _ => L (.loop b) env H K .mk
  | .scope b, env, H, K, _ => xC qt C L T M b env H K .mk
  | .label _, env, H, K, _ => K .normal env H
  | _, _, _, _, _ => False

/-- So many rounds. -/
def xR (qt : FuncId → Bool) (C : CallX) (L : LoopX) (T : Tab) (M : Addr → Option AV) (b : Code) : Nat → List AV → Heap → (K : Out → List AV → Heap → Prop) → Tag K → Prop
  | 0, _, _, _, _ => False
  | n + 1, env, H, K, _ => xC qt C L T M b env H (fun o e h => match o with | .normal => xR qt C L T M b n e h K .mk | .exit i => K (.exit i) e h | .ret => K .ret e h) .mk

section
variable {C : CallX} {L : LoopX} {T : Tab} {M : Addr → Option AV} {env : List AV} {H : Heap} {K : Out → List AV → Heap → Prop} {KO : List AV → Heap → Prop} {KV : AV → Heap → Prop} {t : Tag K} {tO : Tag KO} {tV : Tag KV}

theorem xC_skip : xC qt C L T M .skip env H K t = K .normal env H := of_eq_true (eq_true rfl)
theorem xC_exit {id : Nat} : xC qt C L T M (.exit id) env H K t = K (.exit id) env H := of_eq_true (eq_true rfl)
theorem xC_ret : xC qt C L T M .ret env H K t = K .ret env H := of_eq_true (eq_true rfl)
theorem xC_drawn {id : Nat} {ops : Array Oper} : xC qt C L T M (.region id ops true) env H K t = xOps (Ex qt C) T M ops ops.toList env H (K .normal) .mk := of_eq_true (eq_true rfl)
theorem xC_text {id : Nat} {ops : Array Oper} : xC qt C L T M (.region id ops false) env H K t = xOps C T M ops ops.toList env H (K .normal) .mk := of_eq_true (eq_true rfl)
theorem xC_seq {a b : Code} : xC qt C L T M (.seq a b) env H K t = xC qt C L T M a env H (fun o e h => match o with | .normal => xC qt C L T M b e h K .mk | .exit i => K (.exit i) e h | .ret => K .ret e h) .mk := of_eq_true (eq_true rfl)
theorem xC_cond {c : Operand} {a b : Code} : xC qt C L T M (.cond c a b) env H K t = (match opv env c with | .bool true => xC qt C L T M a env H K .mk | .bool false => xC qt C L T M b env H K .mk | _ => False) := of_eq_true (eq_true rfl)
theorem xC_block {id : Nat} {b : Code} : xC qt C L T M (.block id b) env H K t = xC qt C L T M b env H (fun o e h => match o with | .normal => K .normal e h | .exit i => if i = id then K .normal e h else K (.exit i) e h | .ret => K .ret e h) .mk := of_eq_true (eq_true rfl)
theorem xC_scope {b : Code} : xC qt C L T M (.scope b) env H K t = xC qt C L T M b env H K .mk := of_eq_true (eq_true rfl)
theorem xC_label {l : Nat} : xC qt C L T M (.label l) env H K t = K .normal env H := of_eq_true (eq_true rfl)
theorem xC_loop {b : Code} : xC qt C L T M (.loop b) env H K t = L (.loop b) env H K .mk := of_eq_true (eq_true rfl)
theorem xOps_nil {ops : Array Oper} : xOps C T M ops [] env H KO tO = KO env H := of_eq_true (eq_true rfl)
theorem xOps_cons {ops : Array Oper} {o : Oper} {os : List Oper} : xOps C T M ops (o :: os) env H KO tO = (match wantedA ops env o with
    | some true => xOp C T M o.op env H (fun v h => xOps C T M ops os (putA env o.dst v) h KO .mk) .mk
    | some false => xOps C T M ops os (putA env o.dst (.tup [])) H KO .mk
    | none => False) := of_eq_true (eq_true rfl)
theorem xOp_call {f : Operand} {args : Array Operand} {ats : Array TypeId} : xOp C T M (.call { callee := .value f, args := args, argTypes := ats }) env H KV tV = (match opv env f with | .func k => C k (args.toList.map (opv env)) H KV .mk | _ => False) := of_eq_true (eq_true rfl)

theorem xOp_op {o : Op} (h : isCallV o = false) : xOp C T M o env H KV tV = (match evOp T M o (opv env) H with | some (v, h) => KV v h | none => False) := by
  unfold xOp
  split
  · simp [isCallV] at h
  · rfl

theorem xOp_move {x : Operand} : xOp C T M (.move x) env H KV tV = (match evOp T M (.move x) (opv env) H with | some (v, h) => KV v h | none => False) := xOp_op rfl
theorem xOp_assign {x : Operand} : xOp C T M (.assign x) env H KV tV = (match evOp T M (.assign x) (opv env) H with | some (v, h) => KV v h | none => False) := xOp_op rfl
theorem xOp_pick {c a b : Operand} : xOp C T M (.pick c a b) env H KV tV = (match evOp T M (.pick c a b) (opv env) H with | some (v, h) => KV v h | none => False) := xOp_op rfl
theorem xOp_alloc {t : TypeId} : xOp C T M (.alloc t) env H KV tV = (match evOp T M (.alloc t) (opv env) H with | some (v, h) => KV v h | none => False) := xOp_op rfl
theorem xOp_box {t : TypeId} {x : Operand} : xOp C T M (.box t x) env H KV tV = (match evOp T M (.box t x) (opv env) H with | some (v, h) => KV v h | none => False) := xOp_op rfl
theorem xOp_build {t : TypeId} {p : Array (Nat × Operand)} : xOp C T M (.build t p) env H KV tV = (match evOp T M (.build t p) (opv env) H with | some (v, h) => KV v h | none => False) := xOp_op rfl
theorem xOp_buildSlice {t : TypeId} {n : Nat} {p : Array (Nat × Operand)} : xOp C T M (.buildSlice t n p) env H KV tV = (match evOp T M (.buildSlice t n p) (opv env) H with | some (v, h) => KV v h | none => False) := xOp_op rfl
theorem xOp_load {t : TypeId} {x : Operand} : xOp C T M (.load t x) env H KV tV = (match evOp T M (.load t x) (opv env) H with | some (v, h) => KV v h | none => False) := xOp_op rfl
theorem xOp_store {t : TypeId} {x y : Operand} : xOp C T M (.store t x y) env H KV tV = (match evOp T M (.store t x y) (opv env) H with | some (v, h) => KV v h | none => False) := xOp_op rfl
theorem xOp_nilCheck {x : Operand} : xOp C T M (.nilCheck x) env H KV tV = (match evOp T M (.nilCheck x) (opv env) H with | some (v, h) => KV v h | none => False) := xOp_op rfl
theorem xOp_binOp {o : BinOp} {t : TypeId} {x y : Operand} {u : TypeId} : xOp C T M (.binOp o t x y u) env H KV tV = (match evOp T M (.binOp o t x y u) (opv env) H with | some (v, h) => KV v h | none => False) := xOp_op rfl
theorem xOp_unOp {o : UnOp} {t : TypeId} {x : Operand} : xOp C T M (.unOp o t x) env H KV tV = (match evOp T M (.unOp o t x) (opv env) H with | some (v, h) => KV v h | none => False) := xOp_op rfl
theorem xOp_convert {s t : TypeId} {x : Operand} : xOp C T M (.convert s t x) env H KV tV = (match evOp T M (.convert s t x) (opv env) H with | some (v, h) => KV v h | none => False) := xOp_op rfl
theorem xOp_makeInterface {t : TypeId} {x : Operand} : xOp C T M (.makeInterface t x) env H KV tV = (match evOp T M (.makeInterface t x) (opv env) H with | some (v, h) => KV v h | none => False) := xOp_op rfl
theorem xOp_makeSlice {t : TypeId} {x y : Operand} : xOp C T M (.makeSlice t x y) env H KV tV = (match evOp T M (.makeSlice t x y) (opv env) H with | some (v, h) => KV v h | none => False) := xOp_op rfl
theorem xOp_slice {t : TypeId} {x : Operand} {l h m : Option Operand} : xOp C T M (.slice t x l h m) env H KV tV = (match evOp T M (.slice t x l h m) (opv env) H with | some (v, h) => KV v h | none => False) := xOp_op rfl
theorem xOp_fieldAddr {t : TypeId} {x : Operand} {i : Nat} : xOp C T M (.fieldAddr t x i) env H KV tV = (match evOp T M (.fieldAddr t x i) (opv env) H with | some (v, h) => KV v h | none => False) := xOp_op rfl
theorem xOp_field {t : TypeId} {x : Operand} {i : Nat} : xOp C T M (.field t x i) env H KV tV = (match evOp T M (.field t x i) (opv env) H with | some (v, h) => KV v h | none => False) := xOp_op rfl
theorem xOp_indexAddr {t : TypeId} {x i : Operand} : xOp C T M (.indexAddr t x i) env H KV tV = (match evOp T M (.indexAddr t x i) (opv env) H with | some (v, h) => KV v h | none => False) := xOp_op rfl
theorem xOp_index {t : TypeId} {x i : Operand} : xOp C T M (.index t x i) env H KV tV = (match evOp T M (.index t x i) (opv env) H with | some (v, h) => KV v h | none => False) := xOp_op rfl
theorem xOp_extract {x : Operand} {i : Nat} : xOp C T M (.extract x i) env H KV tV = (match evOp T M (.extract x i) (opv env) H with | some (v, h) => KV v h | none => False) := xOp_op rfl
theorem xOp_range {t : TypeId} {x : Operand} : xOp C T M (.range t x) env H KV tV = (match evOp T M (.range t x) (opv env) H with | some (v, h) => KV v h | none => False) := xOp_op rfl
theorem xOp_next {x : Operand} {s : Bool} : xOp C T M (.next x s) env H KV tV = (match evOp T M (.next x s) (opv env) H with | some (v, h) => KV v h | none => False) := xOp_op rfl
theorem xOp_builtin {b : Builtin} {args : Array Operand} {ats : Array TypeId} : xOp C T M (.call { callee := .builtin b, args := args, argTypes := ats }) env H KV tV = (match evOp T M (.call { callee := .builtin b, args := args, argTypes := ats }) (opv env) H with | some (v, h) => KV v h | none => False) := xOp_op rfl
end

/-- The calls and loops of a program. -/
def callX (P : Program) (M : Addr → Option AV) : CallX := fun k args H K _ => SemF P M k args H K
def loopX (qt : FuncId → Bool) (P : Program) (T : Tab) (M : Addr → Option AV) : LoopX := fun c env H K _ => codeB qt T c = true → SemC P M c env H K

theorem xOp_ex {P : Program} {T : Tab} {M : Addr → Option AV} {o : Oper} {env : List AV} {H : Heap} {K : AV → Heap → Prop} (h : xOp (Ex qt (callX P M)) T M o.op env H K .mk) : ∃ v h', StepD qt P T M o env H v h' ∧ K v h' := by
  unfold xOp at h
  unfold StepD
  split at h
  · rename_i f args ats ho
    have hc : callOf o.op = some (f, args.toList) := by rw [ho]; rfl
    simp only [hc]
    split at h
    · rename_i k hk
      obtain ⟨v, h', h1, h3, h2⟩ := h
      exact ⟨v, h', ⟨k, hk, h1, h3⟩, h2⟩
    · exact h.elim
  · rename_i hno
    have hc : callOf o.op = none := by
      unfold callOf
      split
      · rename_i f args ats ho; exact absurd ho (hno f args ats)
      · rfl
    simp only [hc]
    split at h
    · rename_i v h' he; exact ⟨v, h', he, h⟩
    · exact h.elim

theorem xOps_ex {P : Program} {T : Tab} {M : Addr → Option AV} {ops : Array Oper} : ∀ (os : List Oper) (env : List AV) (H : Heap) (K : List AV → Heap → Prop), xOps (Ex qt (callX P M)) T M ops os env H K .mk → ∃ env' H', RunD qt P T M ops os env H env' H' ∧ K env' H'
  | [], env, H, K, h => ⟨env, H, ⟨rfl, rfl⟩, h⟩
  | o :: os, env, H, K, h => by
    simp only [xOps] at h
    split at h
    · rename_i hw
      obtain ⟨v, h1, hs, hk⟩ := xOp_ex h
      obtain ⟨env', H', hr, hq⟩ := xOps_ex os _ _ _ hk
      exact ⟨env', H', ⟨v, h1, .inl ⟨hw, hs⟩, hr⟩, hq⟩
    · rename_i hw
      obtain ⟨env', H', hr, hq⟩ := xOps_ex os _ _ _ h
      exact ⟨env', H', ⟨.tup [], H, .inr ⟨hw, rfl, rfl⟩, hr⟩, hq⟩
    · exact h.elim

theorem xOp_q {P : Program} {T : Tab} {M : Addr → Option AV} {o : Oper} {env : List AV} {H : Heap} {K : AV → Heap → Prop} (h : xOp (callX P M) T M o.op env H K .mk) : StepQ P T M o env H K := by
  unfold xOp at h
  unfold StepQ
  split at h
  · rename_i f args ats ho
    have hc : callOf o.op = some (f, args.toList) := by rw [ho]; rfl
    simp only [hc]
    split at h
    · rename_i k hk
      exact ⟨k, hk, h⟩
    · exact h.elim
  · rename_i hno
    have hc : callOf o.op = none := by
      unfold callOf
      split
      · rename_i f args ats ho; exact absurd ho (hno f args ats)
      · rfl
    simp only [hc]
    split at h
    · rename_i v h' he; exact ⟨v, h', he, h⟩
    · exact h.elim

theorem StepQ.mono {P : Program} {T : Tab} {M : Addr → Option AV} {o : Oper} {env : List AV} {H : Heap} {Q Q' : AV → Heap → Prop} (h : StepQ P T M o env H Q) (hq : ∀ v h, Q v h → Q' v h) : StepQ P T M o env H Q' := by
  unfold StepQ at h ⊢
  cases hc : callOf o.op with
  | some fa =>
    simp only [hc] at h ⊢
    obtain ⟨k, hk, h⟩ := h
    exact ⟨k, hk, h.mono hq⟩
  | none =>
    simp only [hc] at h ⊢
    obtain ⟨v, h', he, h⟩ := h
    exact ⟨v, h', he, hq _ _ h⟩

theorem xOps_q {P : Program} {T : Tab} {M : Addr → Option AV} {ops : Array Oper} : ∀ (os : List Oper) (env : List AV) (H : Heap) (K : List AV → Heap → Prop), xOps (callX P M) T M ops os env H K .mk → RunQ P T M ops os env H K
  | [], env, H, K, h => h
  | o :: os, env, H, K, h => by
    simp only [xOps] at h
    unfold RunQ
    split at h
    · rename_i hw
      exact .inl ⟨hw, (xOp_q h).mono fun v h' hk => xOps_q os _ _ _ hk⟩
    · rename_i hw
      exact .inr ⟨hw, xOps_q os _ _ _ h⟩
    · exact h.elim

theorem xC_sound {P : Program} {T : Tab} {M : Addr → Option AV} (hS : Sound P T) : ∀ (c : Code) (env : List AV) (H : Heap) (K : Out → List AV → Heap → Prop), codeB qt T c = true → xC qt (callX P M) (loopX qt P T M) T M c env H K .mk → SemC P M c env H K
  | .skip, env, H, K, _, h => .skip h
  | .exit id, env, H, K, _, h => .exit h
  | .ret, env, H, K, _, h => .ret h
  | .region id ops true, env, H, K, hb, h => by
    obtain ⟨env', H', hr, hq⟩ := xOps_ex _ _ _ _ h
    exact .region hS hb hr hq
  | .region id ops false, env, H, K, hb, h => .text hS (xOps_q _ _ _ _ h)
  | .seq a b, env, H, K, hb, h => by
    simp only [codeB, Bool.and_eq_true] at hb
    refine .seq ((xC_sound hS a env H _ hb.1 h).mono fun o e h' hq => ?_)
    cases o with
    | normal => exact xC_sound hS b e h' K hb.2 hq
    | exit i => exact hq
    | ret => exact hq
  | .cond c a b, env, H, K, hb, h => by
    simp only [codeB, Bool.and_eq_true] at hb
    simp only [xC] at h
    split at h
    · rename_i he; exact .cond true he (xC_sound hS a env H K hb.1 h)
    · rename_i he; exact .cond false he (xC_sound hS b env H K hb.2 h)
    · exact h.elim
  | .block id b, env, H, K, hb, h => by
    simp only [codeB] at hb
    refine .block ((xC_sound hS b env H _ hb h).mono fun o e h' hq => ?_)
    cases o with
    | normal => exact hq
    | exit i => exact hq
    | ret => exact hq
  | .loop b, env, H, K, hb, h => h hb
  | .label _, env, H, K, _, h => .label h
  | .goto _, _, _, _, _, h => by simp only [xC] at h
  | .scope b, env, H, K, hb, h => by
    simp only [codeB] at hb
    exact .scope (xC_sound hS b env H K hb h)
  | .rangeFunc .., _, _, _, _, h => by simp only [xC] at h

/-- What a walk may use of calls and loops. -/
structure Wk (qt : FuncId → Bool) (P : Program) (T : Tab) (M : Addr → Option AV) (C : CallX) (L : LoopX) : Prop where
  call : ∀ {k : FuncId} {args : List AV} {H : Heap} {K Q : AV → Heap → Prop} {t : Tag K}, SemF P M k args H Q → (∀ v h, Q v h → K v h) → C k args H K t
  one : ∀ {k : FuncId} {args : List AV} {H H' : Heap} {K : AV → Heap → Prop} {t : Tag K} {v : AV}, SemF P M k args H (fun v' h' => v' = v ∧ h' = H') → K v H' → C k args H K t
  ex : ∀ {k : FuncId} {args : List AV} {H : Heap} {K : AV → Heap → Prop} {t : Tag K} {v : AV}, SemF P M k args H (fun v' h' => v' = v ∧ h' = H) → K v H → Ex qt C k args H K t
  exh : ∀ {k : FuncId} {args : List AV} {H H' : Heap} {K : AV → Heap → Prop} {t : Tag K} {v : AV}, qt k = false → SemF P M k args H (fun v' h' => v' = v ∧ h' = H') → K v H' → Ex qt C k args H K t
  loop : ∀ (I : Nat → List AV → Heap → Prop) (n0 : Nat) {b : Code} {env : List AV} {H : Heap} {K : Out → List AV → Heap → Prop} {t : Tag K}, I n0 env H →
    (∀ n e h, I n e h → ∀ J : List AV → Heap → Prop, (∀ m e' h' h'', m < n → Weak h' h'' → I m e' h'' → J e' h') → xC qt C L T M b e h (fun o e' h' => match o with | .normal => J e' h' | .exit i => K (.exit i) e' h' | .ret => K .ret e' h') .mk) → L (.loop b) env H K t
  rounds : ∀ (n : Nat) {b : Code} {env : List AV} {H : Heap} {K : Out → List AV → Heap → Prop} {t : Tag K}, xR qt C L T M b n env H K .mk → L (.loop b) env H K t
  weak : ∀ {b : Code} {env : List AV} {H H' : Heap} {K : Out → List AV → Heap → Prop} {t t' : Tag K}, Weak H H' → L (.loop b) env H' K t' → L (.loop b) env H K t
  cm : ∀ {k : FuncId} {args : List AV} {H : Heap} {K K' : AV → Heap → Prop} {t : Tag K} {t' : Tag K'}, (∀ v h, K v h → K' v h) → C k args H K t → C k args H K' t'
  lm : ∀ {b : Code} {env : List AV} {H : Heap} {K K' : Out → List AV → Heap → Prop} {t : Tag K} {t' : Tag K'}, (∀ o e h, K o e h → K' o e h) → L (.loop b) env H K t → L (.loop b) env H K' t'

theorem way {P : Program} {T : Tab} {M : Addr → Option AV} (hS : Sound P T) : Wk qt P T M (callX P M) (loopX qt P T M) where
  call h hq := h.mono hq
  one h hq := h.mono fun v h ⟨h1, h2⟩ => by subst h1 h2; exact hq
  ex h hq := ⟨_, _, h, fun _ => rfl, hq⟩
  exh hqt h hq := ⟨_, _, h, (fun h => by rw [hqt] at h; cases h), hq⟩
  loop I n0 b env H K t h0 round hb := by
    have hb' : codeB qt T b = true := hb
    refine .loop (fun n e h => ∃ h', Weak h h' ∧ I n e h') n0 ⟨H, Weak.refl _, h0⟩ ?_
    intro n e h ⟨h', hw, hI⟩
    have := (xC_sound hS b e h' _ hb' (round n e h' hI (fun e h => ∃ m, m < n ∧ ∃ h', Weak h h' ∧ I m e h') fun m e' h1 h2 hm hw hI => ⟨m, hm, h2, hw, hI⟩))
    intro W0 W ρ a hM hR q
    refine wp_mono (this W0 W ρ a hM (hR.weak hw) q) fun e a' W' ⟨o, env', H', ρ', h1, h2, l, q', r'⟩ => ?_
    subst h1
    cases o with
    | normal => exact ⟨.normal, env', H', ρ', rfl, h2, l, q', r'⟩
    | exit i => exact ⟨.exit i, env', H', ρ', rfl, h2, l, q', r'⟩
    | ret => exact ⟨.ret, env', H', ρ', rfl, h2, l, q', r'⟩
  rounds n b env H K t h hb := by
    have hb' : codeB qt T b = true := hb
    refine .rounds n ?_
    clear t
    induction n generalizing env H with
    | zero => exact h
    | succ n ih =>
      refine (xC_sound hS b env H _ hb' h).mono fun o e h' hq => ?_
      cases o with
      | normal => exact ih _ _ hq
      | exit i => exact hq
      | ret => exact hq
  weak hw h hb := fun W0 W ρ a hM hR q => h hb W0 W ρ a hM (hR.weak hw) q
  cm hk h := SemF.mono h hk
  lm hk h := fun hb => (h hb).mono hk

/-- What is shown for more is shown for less. -/
theorem xOps_mono {C : CallX} {T : Tab} {M : Addr → Option AV} {ops : Array Oper} (hC : ∀ {k : FuncId} {args : List AV} {H : Heap} {K K' : AV → Heap → Prop} {t : Tag K} {t' : Tag K'}, (∀ v h, K v h → K' v h) → C k args H K t → C k args H K' t') :
    ∀ (os : List Oper) (env : List AV) (H : Heap) (K K' : List AV → Heap → Prop) (t : Tag K) (t' : Tag K'), (∀ e h, K e h → K' e h) → xOps C T M ops os env H K t → xOps C T M ops os env H K' t'
  | [], env, H, K, K', _, _, hk, h => hk _ _ h
  | o :: os, env, H, K, K', _, _, hk, h => by
    simp only [xOps] at h ⊢
    split at h
    · unfold xOp at h ⊢
      split at h
      · split at h
        · exact hC (fun v h hq => xOps_mono (C := C) hC os _ _ K K' .mk .mk hk hq) h
        · exact h.elim
      · split at h
        · exact xOps_mono (C := C) hC os _ _ K K' .mk .mk hk h
        · exact h.elim
    · exact xOps_mono (C := C) hC os _ _ K K' .mk .mk hk h
    · exact h.elim

theorem xC_mono {P : Program} {T : Tab} {M : Addr → Option AV} {C : CallX} {L : LoopX} (hS : Wk qt P T M C L) : ∀ (c : Code) (env : List AV) (H : Heap) (K K' : Out → List AV → Heap → Prop) (t : Tag K) (t' : Tag K'), (∀ o e h, K o e h → K' o e h) → xC qt C L T M c env H K t → xC qt C L T M c env H K' t'
  | .skip, env, H, K, K', _, _, hk, h => hk _ _ _ h
  | .exit id, env, H, K, K', _, _, hk, h => hk _ _ _ h
  | .ret, env, H, K, K', _, _, hk, h => hk _ _ _ h
  | .region id ops true, env, H, K, K', _, _, hk, h => xOps_mono (C := Ex qt C) (fun hk ⟨v, h, a, b, c⟩ => ⟨v, h, a, b, hk _ _ c⟩) _ _ _ _ _ .mk .mk (fun e h hq => hk _ _ _ hq) h
  | .region id ops false, env, H, K, K', _, _, hk, h => xOps_mono (C := C) hS.cm _ _ _ _ _ .mk .mk (fun e h hq => hk _ _ _ hq) h
  | .seq a b, env, H, K, K', _, _, hk, h => xC_mono hS a env H _ _ .mk .mk (fun o e h hq => by
      cases o with
      | normal => exact xC_mono hS b e h K K' .mk .mk hk hq
      | exit i => exact hk _ _ _ hq
      | ret => exact hk _ _ _ hq) h
  | .cond c a b, env, H, K, K', _, _, hk, h => by
    simp only [xC] at h ⊢
    split at h
    · exact xC_mono hS a env H K K' .mk .mk hk h
    · exact xC_mono hS b env H K K' .mk .mk hk h
    · exact h.elim
  | .block id b, env, H, K, K', _, _, hk, h => xC_mono hS b env H _ _ .mk .mk (fun o e h hq => by
      cases o with
      | normal => exact hk _ _ _ hq
      | exit i =>
        simp only at hq ⊢
        split at hq
        · rename_i hi; rw [if_pos hi]; exact hk _ _ _ hq
        · rename_i hi; rw [if_neg hi]; exact hk _ _ _ hq
      | ret => exact hk _ _ _ hq) h
  | .loop b, env, H, K, K', _, _, hk, h => hS.lm hk h
  | .scope b, env, H, K, K', _, _, hk, h => xC_mono hS b env H K K' .mk .mk hk h
  | .label _, env, H, K, K', _, _, hk, h => hk _ _ _ h
  | .goto _, _, _, _, _, _, _, _, h => by simp only [xC] at h
  | .rangeFunc .., _, _, _, _, _, _, _, h => by simp only [xC] at h

/-- A walk cut in two: what holds behind the first part is all that the second part may use. -/
theorem Wk.cut {P : Program} {T : Tab} {M : Addr → Option AV} {C : CallX} {L : LoopX} (hS : Wk qt P T M C L) {a b : Code} {env : List AV} {H : Heap} {K : Out → List AV → Heap → Prop} {t : Tag K} (Q : List AV → Heap → Prop)
    (h1 : xC qt C L T M a env H (fun o e h => match o with | .normal => Q e h | .exit i => K (.exit i) e h | .ret => K .ret e h) .mk) (h2 : ∀ e h, Q e h → xC qt C L T M b e h K .mk) : xC qt C L T M (.seq a b) env H K t :=
  xC_mono hS a env H _ _ .mk .mk (fun o e h hq => by
    cases o with
    | normal => exact h2 e h hq
    | exit i => exact hq
    | ret => exact hq) h1

/-- A FUNCTION, by its body. -/
theorem fn_way {P : Program} {T : Tab} {M : Addr → Option AV} (hS : Sound P T) {k : FuncId} {fn : Func} {c : Code} {args : List AV} {H : Heap} {Q : AV → Heap → Prop} (hf : P.funcs[k]? = some fn) (hname : (fn.name == "runtime.NumGoroutine") = false) (hb : fn.body = some c) (hr : codeB qt T c = true)
    (h : ∀ C L, Wk qt P T M C L → xC qt C L T M c (args ++ List.replicate (fn.ntmps - args.length) (.tup [])) H (fun o e h => match o with | .exit _ => False | .normal => ∃ l, resA T M e h fn.results.toList = some l ∧ Q (resultA l) h | .ret => ∃ l, resA T M e h fn.results.toList = some l ∧ Q (resultA l) h) .mk) : SemF P M k args H Q :=
  SemF.body hS hf hname hb ((xC_sound hS c _ H _ hr (h _ _ (way hS))).mono fun o e h' hq => by
    cases o with
    | normal => exact ⟨trivial, hq⟩
    | exit i => exact hq.elim
    | ret => exact ⟨trivial, hq⟩)

end Go.Proofs.YtaaecodkdgkjoaaDoor.E

namespace Go.Proofs.YtaaecodkdgkjoaaDoor.E
open Go Go.RowKit
variable {qt : FuncId → Bool}

theorem cellsOf_bool {b : Bool} : cellsOf (.bool b) = [.bool b] := of_eq_true (eq_true rfl)
theorem isCell_bool {b : Bool} : isCell (.bool b) = true := of_eq_true (eq_true rfl)
theorem cellsOf_int {k : IntKind} {n : Int} : cellsOf (.int k n) = [.int k n] := of_eq_true (eq_true rfl)
theorem isCell_int {k : IntKind} {n : Int} : isCell (.int k n) = true := of_eq_true (eq_true rfl)
theorem cellsOf_float {k : FloatKind} {b : Nat} : cellsOf (.float k b) = [.float k b] := of_eq_true (eq_true rfl)
theorem isCell_float {k : FloatKind} {b : Nat} : isCell (.float k b) = true := of_eq_true (eq_true rfl)
theorem cellsOf_cplx {k : FloatKind} {a b : Nat} : cellsOf (.cplx k a b) = [.cplx k a b] := of_eq_true (eq_true rfl)
theorem isCell_cplx {k : FloatKind} {a b : Nat} : isCell (.cplx k a b) = true := of_eq_true (eq_true rfl)
theorem cellsOf_str {s : List UInt8} : cellsOf (.str s) = [.str s] := of_eq_true (eq_true rfl)
theorem isCell_str {s : List UInt8} : isCell (.str s) = true := of_eq_true (eq_true rfl)
theorem cellsOf_nilptr : cellsOf (.nilptr) = [.nilptr] := of_eq_true (eq_true rfl)
theorem isCell_nilptr : isCell (.nilptr) = true := of_eq_true (eq_true rfl)
theorem cellsOf_ptr {b e o : Nat} : cellsOf (.ptr b e o) = [.ptr b e o] := of_eq_true (eq_true rfl)
theorem isCell_ptr {b e o : Nat} : isCell (.ptr b e o) = true := of_eq_true (eq_true rfl)
theorem cellsOf_optr {a : Addr} : cellsOf (.optr a) = [.optr a] := of_eq_true (eq_true rfl)
theorem isCell_optr {a : Addr} : isCell (.optr a) = true := of_eq_true (eq_true rfl)
theorem cellsOf_nilslice : cellsOf (.nilslice) = [.nilslice] := of_eq_true (eq_true rfl)
theorem isCell_nilslice : isCell (.nilslice) = true := of_eq_true (eq_true rfl)
theorem cellsOf_slice {b e o z n : Nat} {c : Option Nat} : cellsOf (.slice b e o z n c) = [.slice b e o z n c] := of_eq_true (eq_true rfl)
theorem isCell_slice {b e o z n : Nat} {c : Option Nat} : isCell (.slice b e o z n c) = true := of_eq_true (eq_true rfl)
theorem cellsOf_oslice {a : Addr} {n m : Nat} : cellsOf (.oslice a n m) = [.oslice a n m] := of_eq_true (eq_true rfl)
theorem isCell_oslice {a : Addr} {n m : Nat} : isCell (.oslice a n m) = true := of_eq_true (eq_true rfl)
theorem cellsOf_func {f : Nat} : cellsOf (.func f) = [.func f] := of_eq_true (eq_true rfl)
theorem isCell_func {f : Nat} : isCell (.func f) = true := of_eq_true (eq_true rfl)
theorem cellsOf_nilfunc : cellsOf (.nilfunc) = [.nilfunc] := of_eq_true (eq_true rfl)
theorem isCell_nilfunc : isCell (.nilfunc) = true := of_eq_true (eq_true rfl)
theorem cellsOf_iface {t : TypeId} {v : AV} : cellsOf (.iface t v) = [.iface t v] := of_eq_true (eq_true rfl)
theorem isCell_iface {t : TypeId} {v : AV} : isCell (.iface t v) = true := of_eq_true (eq_true rfl)
theorem cellsOf_nilIface : cellsOf (.nilIface) = [.nilIface] := of_eq_true (eq_true rfl)
theorem isCell_nilIface : isCell (.nilIface) = true := of_eq_true (eq_true rfl)
theorem cellsOf_agg {l : List AV} : cellsOf (.agg l) = l := of_eq_true (eq_true rfl)
theorem zerosA_one {z : AV} {n : Nat} : zerosA [z] n = List.replicate n z := of_eq_true (eq_true rfl)

theorem Rep.one {el : TypeId} {sz : Nat} {H : Heap} {v : AV} {o : Option Nat} {cells : List AV} (h : Rep el sz H v o cells) : cellsOf v = [v] ∧ isCell v = true := by
  cases h <;> exact ⟨rfl, rfl⟩

theorem Rep.New.trans {H H' : Heap} {a b c : Option Nat} (h : Rep.New H a b) (k : Rep.New H' b c) (hl : H.length ≤ H'.length) : Rep.New H a c := by
  rcases k with rfl | ⟨x, rfl, hx⟩
  · exact h
  · exact .inr ⟨x, rfl, by omega⟩

theorem bits_u8 : IntKind.u8.bits = 8 := rfl
theorem bits_u16 : IntKind.u16.bits = 16 := rfl
theorem bits_u32 : IntKind.u32.bits = 32 := rfl
theorem bits_u64 : IntKind.u64.bits = 64 := rfl
theorem bits_i32 : IntKind.i32.bits = 32 := rfl
theorem bits_i64 : IntKind.i64.bits = 64 := rfl

section
variable {T : Tab} {M : Addr → Option AV} {op : BinOp} {t : TypeId} {xo yo : Operand} {x y : AV}
theorem binM_int {k : IntKind} {n : Int} : binM T M op t xo yo (.int k n) y = binA T op t xo yo (.int k n) y := of_eq_true (eq_true rfl)
theorem binM_bool {c : Bool} : binM T M op t xo yo (.bool c) y = binA T op t xo yo (.bool c) y := of_eq_true (eq_true rfl)
theorem binM_float {k : FloatKind} {n : Nat} : binM T M op t xo yo (.float k n) y = binA T op t xo yo (.float k n) y := of_eq_true (eq_true rfl)
theorem binM_cplx {k : FloatKind} {n m : Nat} : binM T M op t xo yo (.cplx k n m) y = binA T op t xo yo (.cplx k n m) y := of_eq_true (eq_true rfl)
theorem binM_str {s : List UInt8} : binM T M op t xo yo (.str s) y = binA T op t xo yo (.str s) y := of_eq_true (eq_true rfl)
theorem binM_agg {l : List AV} : binM T M op t xo yo (.agg l) y = binA T op t xo yo (.agg l) y := of_eq_true (eq_true rfl)
theorem binM_nilptr : binM T M op t xo yo .nilptr y = binA T op t xo yo .nilptr y := of_eq_true (eq_true rfl)
theorem binM_ptr {b e o : Nat} : binM T M op t xo yo (.ptr b e o) y = binA T op t xo yo (.ptr b e o) y := of_eq_true (eq_true rfl)
theorem binM_nilslice : binM T M op t xo yo .nilslice y = binA T op t xo yo .nilslice y := of_eq_true (eq_true rfl)
theorem binM_slice {b e o s n : Nat} {c : Option Nat} : binM T M op t xo yo (.slice b e o s n c) y = binA T op t xo yo (.slice b e o s n c) y := of_eq_true (eq_true rfl)
theorem binM_oslice {a : Addr} {n c : Nat} : binM T M op t xo yo (.oslice a n c) y = binA T op t xo yo (.oslice a n c) y := of_eq_true (eq_true rfl)
theorem binM_nilIface : binM T M op t xo yo .nilIface y = binA T op t xo yo .nilIface y := of_eq_true (eq_true rfl)
theorem binM_iface {u : TypeId} {v : AV} : binM T M op t xo yo (.iface u v) y = binA T op t xo yo (.iface u v) y := of_eq_true (eq_true rfl)
theorem binM_rnilptr : binM T M op t xo yo x .nilptr = binA T op t xo yo x .nilptr := by cases x <;> rfl
theorem binM_rnilslice : binM T M op t xo yo x .nilslice = binA T op t xo yo x .nilslice := by cases x <;> rfl
theorem binM_rnilIface : binM T M op t xo yo x .nilIface = binA T op t xo yo x .nilIface := by cases x <;> rfl
end

theorem io_add {k : IntKind} {x y : Int} : intOp .add k x y = some (.int k (k.wrap (x + y))) := rfl
theorem io_sub {k : IntKind} {x y : Int} : intOp .sub k x y = some (.int k (k.wrap (x - y))) := rfl
theorem io_mul {k : IntKind} {x y : Int} : intOp .mul k x y = some (.int k (k.wrap (x * y))) := rfl
theorem io_eql {k : IntKind} {x y : Int} : intOp .eql k x y = some (.bool (x == y)) := rfl
theorem io_neq {k : IntKind} {x y : Int} : intOp .neq k x y = some (.bool (x != y)) := rfl
theorem io_lss {k : IntKind} {x y : Int} : intOp .lss k x y = some (.bool (decide (x < y))) := rfl
theorem io_leq {k : IntKind} {x y : Int} : intOp .leq k x y = some (.bool (decide (x ≤ y))) := rfl
theorem io_gtr {k : IntKind} {x y : Int} : intOp .gtr k x y = some (.bool (decide (x > y))) := rfl
theorem io_geq {k : IntKind} {x y : Int} : intOp .geq k x y = some (.bool (decide (x ≥ y))) := rfl
theorem io_quo {k : IntKind} {x y : Int} : intOp .quo k x y = if y = 0 then none else some (.int k (k.wrap (x.tdiv y))) := rfl
theorem io_rem {k : IntKind} {x y : Int} : intOp .rem k x y = if y = 0 then none else some (.int k (x.tmod y)) := rfl
theorem io_and_u8 {x y : Int} : intOp .and .u8 x y = some (.int .u8 (IntKind.u8.wrap ((BitVec.ofInt 8 x &&& BitVec.ofInt 8 y).toNat : Int))) := rfl
theorem io_or_u8 {x y : Int} : intOp .or .u8 x y = some (.int .u8 (IntKind.u8.wrap ((BitVec.ofInt 8 x ||| BitVec.ofInt 8 y).toNat : Int))) := rfl
theorem io_xor_u8 {x y : Int} : intOp .xor .u8 x y = some (.int .u8 (IntKind.u8.wrap ((BitVec.ofInt 8 x ^^^ BitVec.ofInt 8 y).toNat : Int))) := rfl
theorem io_andNot_u8 {x y : Int} : intOp .andNot .u8 x y = some (.int .u8 (IntKind.u8.wrap ((BitVec.ofInt 8 x &&& ~~~ BitVec.ofInt 8 y).toNat : Int))) := rfl
theorem io_and_u16 {x y : Int} : intOp .and .u16 x y = some (.int .u16 (IntKind.u16.wrap ((BitVec.ofInt 16 x &&& BitVec.ofInt 16 y).toNat : Int))) := rfl
theorem io_or_u16 {x y : Int} : intOp .or .u16 x y = some (.int .u16 (IntKind.u16.wrap ((BitVec.ofInt 16 x ||| BitVec.ofInt 16 y).toNat : Int))) := rfl
theorem io_xor_u16 {x y : Int} : intOp .xor .u16 x y = some (.int .u16 (IntKind.u16.wrap ((BitVec.ofInt 16 x ^^^ BitVec.ofInt 16 y).toNat : Int))) := rfl
theorem io_andNot_u16 {x y : Int} : intOp .andNot .u16 x y = some (.int .u16 (IntKind.u16.wrap ((BitVec.ofInt 16 x &&& ~~~ BitVec.ofInt 16 y).toNat : Int))) := rfl
theorem io_and_u32 {x y : Int} : intOp .and .u32 x y = some (.int .u32 (IntKind.u32.wrap ((BitVec.ofInt 32 x &&& BitVec.ofInt 32 y).toNat : Int))) := rfl
theorem io_or_u32 {x y : Int} : intOp .or .u32 x y = some (.int .u32 (IntKind.u32.wrap ((BitVec.ofInt 32 x ||| BitVec.ofInt 32 y).toNat : Int))) := rfl
theorem io_xor_u32 {x y : Int} : intOp .xor .u32 x y = some (.int .u32 (IntKind.u32.wrap ((BitVec.ofInt 32 x ^^^ BitVec.ofInt 32 y).toNat : Int))) := rfl
theorem io_andNot_u32 {x y : Int} : intOp .andNot .u32 x y = some (.int .u32 (IntKind.u32.wrap ((BitVec.ofInt 32 x &&& ~~~ BitVec.ofInt 32 y).toNat : Int))) := rfl
theorem io_and_u64 {x y : Int} : intOp .and .u64 x y = some (.int .u64 (IntKind.u64.wrap ((BitVec.ofInt 64 x &&& BitVec.ofInt 64 y).toNat : Int))) := rfl
theorem io_or_u64 {x y : Int} : intOp .or .u64 x y = some (.int .u64 (IntKind.u64.wrap ((BitVec.ofInt 64 x ||| BitVec.ofInt 64 y).toNat : Int))) := rfl
theorem io_xor_u64 {x y : Int} : intOp .xor .u64 x y = some (.int .u64 (IntKind.u64.wrap ((BitVec.ofInt 64 x ^^^ BitVec.ofInt 64 y).toNat : Int))) := rfl
theorem io_andNot_u64 {x y : Int} : intOp .andNot .u64 x y = some (.int .u64 (IntKind.u64.wrap ((BitVec.ofInt 64 x &&& ~~~ BitVec.ofInt 64 y).toNat : Int))) := rfl
theorem io_and_i64 {x y : Int} : intOp .and .i64 x y = some (.int .i64 (IntKind.i64.wrap ((BitVec.ofInt 64 x &&& BitVec.ofInt 64 y).toNat : Int))) := rfl
theorem io_or_i64 {x y : Int} : intOp .or .i64 x y = some (.int .i64 (IntKind.i64.wrap ((BitVec.ofInt 64 x ||| BitVec.ofInt 64 y).toNat : Int))) := rfl
theorem io_xor_i64 {x y : Int} : intOp .xor .i64 x y = some (.int .i64 (IntKind.i64.wrap ((BitVec.ofInt 64 x ^^^ BitVec.ofInt 64 y).toNat : Int))) := rfl
theorem io_andNot_i64 {x y : Int} : intOp .andNot .i64 x y = some (.int .i64 (IntKind.i64.wrap ((BitVec.ofInt 64 x &&& ~~~ BitVec.ofInt 64 y).toNat : Int))) := rfl
theorem io_and_i32 {x y : Int} : intOp .and .i32 x y = some (.int .i32 (IntKind.i32.wrap ((BitVec.ofInt 32 x &&& BitVec.ofInt 32 y).toNat : Int))) := rfl
theorem io_or_i32 {x y : Int} : intOp .or .i32 x y = some (.int .i32 (IntKind.i32.wrap ((BitVec.ofInt 32 x ||| BitVec.ofInt 32 y).toNat : Int))) := rfl
theorem io_xor_i32 {x y : Int} : intOp .xor .i32 x y = some (.int .i32 (IntKind.i32.wrap ((BitVec.ofInt 32 x ^^^ BitVec.ofInt 32 y).toNat : Int))) := rfl
theorem io_andNot_i32 {x y : Int} : intOp .andNot .i32 x y = some (.int .i32 (IntKind.i32.wrap ((BitVec.ofInt 32 x &&& ~~~ BitVec.ofInt 32 y).toNat : Int))) := rfl
theorem un_neg {k : IntKind} {n : Int} : unA .neg (.int k n) = some (.int k (k.wrap (0 - n))) := rfl
theorem un_not {b : Bool} : unA .not (.bool b) = some (.bool !b) := rfl
theorem un_negf {k : FloatKind} {b : Nat} : unA .neg (.float k b) = some (.float k (negF k b)) := rfl
theorem un_xor_u8 {n : Int} : unA .xor (.int .u8 n) = some (.int .u8 (IntKind.u8.wrap ((BitVec.ofInt 8 (255) ^^^ BitVec.ofInt 8 n).toNat : Int))) := rfl
theorem un_xor_u16 {n : Int} : unA .xor (.int .u16 n) = some (.int .u16 (IntKind.u16.wrap ((BitVec.ofInt 16 (65535) ^^^ BitVec.ofInt 16 n).toNat : Int))) := rfl
theorem un_xor_u32 {n : Int} : unA .xor (.int .u32 n) = some (.int .u32 (IntKind.u32.wrap ((BitVec.ofInt 32 (4294967295) ^^^ BitVec.ofInt 32 n).toNat : Int))) := rfl
theorem un_xor_u64 {n : Int} : unA .xor (.int .u64 n) = some (.int .u64 (IntKind.u64.wrap ((BitVec.ofInt 64 (18446744073709551615) ^^^ BitVec.ofInt 64 n).toNat : Int))) := rfl
theorem un_xor_i64 {n : Int} : unA .xor (.int .i64 n) = some (.int .i64 (IntKind.i64.wrap ((BitVec.ofInt 64 (-1) ^^^ BitVec.ofInt 64 n).toNat : Int))) := rfl

theorem hp_get0 {l r : Heap} : (l ++ r)[l.length]? = r[0]? := by rw [List.getElem?_append_right (Nat.le_refl _), Nat.sub_self]
theorem hp_getk {l r : Heap} {k : Nat} : (l ++ r)[l.length + k]? = r[k]? := by rw [List.getElem?_append_right (by omega), show l.length + k - l.length = k by omega]
theorem hp_set0 {l r : Heap} {x : HB} : (l ++ r).set l.length x = l ++ r.set 0 x := by rw [List.set_append_right _ _ (Nat.le_refl _), Nat.sub_self]
theorem hp_setk {l r : Heap} {k : Nat} {x : HB} : (l ++ r).set (l.length + k) x = l ++ r.set k x := by rw [List.set_append_right _ _ (by omega), show l.length + k - l.length = k by omega]

/-- What lies in slots that nobody asks for. -/
def jk (g : Nat → AV) : Nat → Nat → List AV
  | _, 0 => []
  | k, n + 1 => g k :: jk g (k + 1) n
theorem jk_get (g : Nat → AV) : ∀ (n k i : Nat), (jk g k n)[i]? = if i < n then some (g (k + i)) else none
  | 0, _, _ => by simp [jk]
  | n + 1, k, 0 => by simp [jk]
  | n + 1, k, i + 1 => by
    rw [jk, List.getElem?_cons_succ, jk_get g n (k + 1) i, show k + 1 + i = k + (i + 1) by omega]
    by_cases h : i < n
    · rw [if_pos h, if_pos (by omega)]
    · rw [if_neg h, if_neg (by omega)]
theorem junk (n : Nat) (j : List AV) (h : j.length = n) : ∃ g : Nat → AV, j = jk g 0 n :=
  ⟨fun i => j.getD i (.tup []), by
    refine List.ext_getElem? fun i => ?_
    rw [jk_get, Nat.zero_add]
    by_cases hi : i < n
    · rw [if_pos hi, List.getD_eq_getElem?_getD, List.getElem?_eq_getElem (by omega)]; rfl
    · rw [if_neg hi, List.getElem?_eq_none (by omega)]⟩

end Go.Proofs.YtaaecodkdgkjoaaDoor.E

namespace Go.Proofs.YtaaecodkdgkjoaaDoor.E
open Go Go.RowKit
variable {qt : FuncId → Bool}

inductive OldS (M : Addr → Option AV) (sz : Nat) : AV → List (List AV) → Prop
  | nil : OldS M sz .nilslice []
  | old (a : Addr) (c : Nat) (l : List (List AV)) (h1 : ∀ e ∈ l, e.length = sz) (h2 : ∀ (i : Nat) (e : List AV) (j : Nat) (x : AV), l[i]? = some e → e[j]? = some x → Mc M ((a.add (i * sz)).add j) = some x) : OldS M sz (.oslice a l.length c) l

namespace OldS
variable {T : Tab} {M : Addr → Option AV} {H : Heap} {sz : Nat} {v : AV} {l : List (List AV)} {i j : TI} {t el : TypeId}

theorem len {ts : List TypeId} (h : OldS M sz v l) (ht : T t = some i) (hi : i.und = .slice el) : lenB T (t :: ts) v = some (.int .i64 l.length) := by
  cases h with
  | nil => simp only [lenB, ht, hi]; rfl
  | old a c _ h1 h2 => simp only [lenB, ht, hi]

theorem index {k : IntKind} {n : Int} (h : OldS M sz v l) (h0 : 0 ≤ n) (hn : n.toNat < l.length) (ht : T t = some i) (hi : i.und = .slice el) (he : T el = some j) (hj : j.size = sz) : indexAddrA T H t v (.int k n) = some (placeA v n.toNat sz) := by
  cases h with
  | nil => simp at hn
  | old a c _ h1 h2 =>
    simp only [indexAddrA, ht, hi, he]
    rw [if_pos ⟨h0, by omega⟩, hj]; rfl

theorem load {n : Nat} {e : List AV} (h : OldS M sz v l) (hx : l[n]? = some e) (he : T el = some j) (hj : isAggT j.und = true) (hs : j.size = sz) : loadA T M H el (placeA v n sz) = some (.agg e) := by
  cases h with
  | nil => simp at hx
  | old a c _ h1 h2 =>
    have hl := h1 e (List.mem_of_getElem? hx)
    simp only [loadA, he, hj, placeA, if_true, readN, hs]
    have key : ∀ (r : List AV) (k : Nat), (∀ i v, r[i]? = some v → Mc M ((a.add (n * sz)).add (k + i)) = some v) → (List.range' k r.length).mapM (fun i => Mc M ((a.add (n * sz)).add i)) = some r := by
      intro r
      induction r with
      | nil => intro k _; rfl
      | cons x r ih =>
        intro k hk
        rw [List.length_cons, List.range'_succ, List.mapM_cons]
        have h0 := hk 0 x rfl
        rw [Nat.add_zero] at h0
        rw [h0]
        have h1 := ih (k + 1) fun i v hv => by have := hk (i + 1) v (by simpa using hv); rwa [show k + (i + 1) = k + 1 + i by omega] at this
        rw [h1]; rfl
    rw [List.range_eq_range', ← hl, hl, ← hl]
    have := key e 0 fun i v hv => by rw [Nat.zero_add]; exact h2 n e i v hx hv
    rw [hl] at this
    rw [hl, this]; rfl

end OldS

end Go.Proofs.YtaaecodkdgkjoaaDoor.E

namespace Go.Proofs.YtaaecodkdgkjoaaDoor.E
open Go Go.RowKit
variable {qt : FuncId → Bool}
set_option linter.defProp false
set_option maxRecDepth 10000

def gX := And.intro @xC_skip (And.intro @xC_exit (And.intro @xC_ret (And.intro @xC_seq (And.intro @xC_cond (And.intro @xC_block (And.intro @xC_loop (And.intro @xC_scope (And.intro @xC_label (And.intro @xOps_nil (And.intro @xOps_cons (And.intro @xOp_call (And.intro @xOp_move (And.intro @xOp_assign (And.intro @xOp_pick (And.intro @xOp_alloc (And.intro @xOp_box (And.intro @xOp_build (And.intro @xOp_buildSlice (And.intro @xOp_load (And.intro @xOp_store (And.intro @xOp_nilCheck (And.intro @xOp_binOp (And.intro @xOp_unOp (And.intro @xOp_convert (And.intro @xOp_makeInterface (And.intro @xOp_makeSlice (And.intro @xOp_slice (And.intro @xOp_fieldAddr (And.intro @xOp_field (And.intro @xOp_indexAddr (And.intro @xOp_index (And.intro @xOp_extract (And.intro @xOp_range (And.intro @xOp_next (And.intro @xOp_builtin (And.intro @xC_drawn (@xC_text)))))))))))))))))))))))))))))))))))))
set_option linter.defProp false in
def gXs := And.intro @xC_skip (And.intro @xC_exit (And.intro @xC_ret (And.intro @xC_cond (And.intro @xC_block (And.intro @xC_loop (And.intro @xC_scope (And.intro @xC_label (And.intro @xOps_nil (And.intro @xOps_cons (And.intro @xOp_call (And.intro @xOp_move (And.intro @xOp_assign (And.intro @xOp_pick (And.intro @xOp_alloc (And.intro @xOp_box (And.intro @xOp_build (And.intro @xOp_buildSlice (And.intro @xOp_load (And.intro @xOp_store (And.intro @xOp_nilCheck (And.intro @xOp_binOp (And.intro @xOp_unOp (And.intro @xOp_convert (And.intro @xOp_makeInterface (And.intro @xOp_makeSlice (And.intro @xOp_slice (And.intro @xOp_fieldAddr (And.intro @xOp_field (And.intro @xOp_indexAddr (And.intro @xOp_index (And.intro @xOp_extract (And.intro @xOp_range (And.intro @xOp_next (And.intro @xOp_builtin (And.intro @xC_drawn (@xC_text))))))))))))))))))))))))))))))))))))

def gM := And.intro @binM_int (And.intro @binM_bool (And.intro @binM_float (And.intro @binM_cplx (And.intro @binM_str (And.intro @binM_agg (And.intro @binM_nilptr (And.intro @binM_ptr (And.intro @binM_nilslice (And.intro @binM_slice (And.intro @binM_oslice (And.intro @binM_nilIface (And.intro @binM_iface (And.intro @binM_rnilptr (And.intro @binM_rnilslice (And.intro @binM_rnilIface (And.intro @putA_some (And.intro @putA_none (And.intro @hp_get0 (And.intro @hp_getk (And.intro @hp_set0 (And.intro @hp_setk (And.intro @zerosA_one (And.intro @io_add (And.intro @io_sub (And.intro @io_mul (And.intro @io_eql (And.intro @io_neq (And.intro @io_lss (And.intro @io_leq (And.intro @io_gtr (And.intro @io_geq (And.intro @io_quo (And.intro @io_rem (And.intro @io_and_u8 (And.intro @io_or_u8 (And.intro @io_xor_u8 (And.intro @io_andNot_u8 (And.intro @io_and_u16 (And.intro @io_or_u16 (And.intro @io_xor_u16 (And.intro @io_andNot_u16 (And.intro @io_and_u32 (And.intro @io_or_u32 (And.intro @io_xor_u32 (And.intro @io_andNot_u32 (And.intro @io_and_u64 (And.intro @io_or_u64 (And.intro @io_xor_u64 (And.intro @io_andNot_u64 (And.intro @io_and_i64 (And.intro @io_or_i64 (And.intro @io_xor_i64 (And.intro @io_andNot_i64 (And.intro @io_and_i32 (And.intro @io_or_i32 (And.intro @io_xor_i32 (And.intro @io_andNot_i32 (And.intro @un_neg (And.intro @un_not (And.intro @un_negf (And.intro @un_xor_u8 (And.intro @un_xor_u16 (And.intro @un_xor_u32 (And.intro @un_xor_u64 (And.intro @un_xor_i64 (And.intro @bits_u8 (And.intro @bits_u16 (And.intro @bits_u32 (And.intro @bits_u64 (And.intro @bits_i32 (And.intro @bits_i64 (And.intro @cellsOf_bool (And.intro @isCell_bool (And.intro @cellsOf_int (And.intro @isCell_int (And.intro @cellsOf_float (And.intro @isCell_float (And.intro @cellsOf_cplx (And.intro @isCell_cplx (And.intro @cellsOf_str (And.intro @isCell_str (And.intro @cellsOf_nilptr (And.intro @isCell_nilptr (And.intro @cellsOf_ptr (And.intro @isCell_ptr (And.intro @cellsOf_optr (And.intro @isCell_optr (And.intro @cellsOf_nilslice (And.intro @isCell_nilslice (And.intro @cellsOf_slice (And.intro @isCell_slice (And.intro @cellsOf_oslice (And.intro @isCell_oslice (And.intro @cellsOf_func (And.intro @isCell_func (And.intro @cellsOf_nilfunc (And.intro @isCell_nilfunc (And.intro @cellsOf_iface (And.intro @isCell_iface (And.intro @cellsOf_nilIface (And.intro @isCell_nilIface (@cellsOf_agg))))))))))))))))))))))))))))))))))))))))))))))))))))))))))))))))))))))))))))))))))))))))))))))))))))))

def gL {α : Type} := And.intro (@List.cons_append α) (And.intro (@List.nil_append α) (And.intro (@List.set_cons_zero α) (And.intro (@List.set_cons_succ α) (And.intro (@List.getD_cons_zero α) (And.intro (@List.getD_cons_succ α) (And.intro (@List.getElem?_cons_zero α) (And.intro (@List.getElem?_cons_succ α) (And.intro (@List.length_cons α) (And.intro (@List.length_nil α) (((And.intro (@List.all_cons α) (And.intro (@List.all_nil α) (And.intro (@List.take_succ_cons α) (And.intro (@List.take_zero α) (And.intro (@List.drop_succ_cons α) (And.intro (@List.drop_zero α) (And.intro (@List.take_nil α) (And.intro (@List.drop_nil α) (And.intro (@List.getElem?_toArray α) (And.intro (@List.length_append α) (And.intro (@List.length_set α) ((@List.append_assoc α))))))))))))))))))))))))

def gB := And.intro @Bool.true_and (And.intro @Bool.and_true (And.intro @Bool.false_and (And.intro @Bool.and_false (And.intro @Bool.or_false (And.intro @Bool.false_or (And.intro @Bool.or_true (And.intro @Bool.true_or (And.intro @Bool.not_true (And.intro @Bool.not_false (And.intro @Nat.zero_add (And.intro @Nat.add_zero (And.intro @Nat.mul_one (And.intro @Nat.one_mul (And.intro @Nat.zero_mul (And.intro @Nat.mul_zero (And.intro @beq_true (And.intro @beq_false (And.intro @and_self (And.intro @and_true (And.intro @true_and (And.intro @and_false (And.intro @false_and (And.intro @Nat.succ_ne_self (And.intro @Nat.one_ne_zero (And.intro @decide_true (@decide_false))))))))))))))))))))))))))

end Go.Proofs.YtaaecodkdgkjoaaDoor.E

namespace Go.Proofs.YtaaecodkdgkjoaaDoor.E
open Go Go.RowKit
variable {qt : FuncId → Bool}

/-- The length is within the capacity, where that is known. -/
def Capped (v : AV) : Prop := ∀ b e off sz n c, v = .slice b e off sz n (some c) → n ≤ c

theorem Sees.cell {M : Addr → Option AV} {H : Heap} {sz : Nat} {v : AV} {cells : List AV} (h : Sees M H sz v cells) : cellsOf v = [v] ∧ isCell v = true := by
  cases h <;> exact ⟨rfl, rfl⟩

/-- The same block. -/
def Within (v v' : AV) : Prop := ∀ b e off s n c, v' = .slice b e off s n c → ∃ e' off' s' n' c', v = .slice b e' off' s' n' c'

theorem Sees.slice {T : Tab} {M : Addr → Option AV} {H : Heap} {v : AV} {cells : List AV} {i j : TI} {t el : TypeId} (h : Sees M H 1 v cells) (hc : Capped v) {lo hi : Nat} (hl : lo ≤ hi) (hh : hi ≤ cells.length) (ht : T t = some i) (hi' : i.und = .slice el) (he : T el = some j) (hj : j.size = 1)
    (lo? hi? : Option AV) (e1 : (lo? = none ∧ lo = 0) ∨ ∃ k, lo? = some (.int k lo)) (e2 : (hi? = none ∧ hi = cells.length) ∨ ∃ k, hi? = some (.int k hi)) : ∃ v', sliceA T H t v lo? hi? none = some v' ∧ Sees M H 1 v' ((cells.take hi).drop lo) ∧ Capped v' ∧ Within v v' := by
  have bnd : ∀ len cap, cells.length = len → len ≤ cap → boundsA len cap lo? hi? none = some (lo, hi, cap) := fun len cap h1 h2 => by
    unfold boundsA
    simp only [bndA, Option.isSome_none, Bool.false_eq_true, false_and, if_false]
    have b2 : bndA hi? len cap = some hi := by
      rcases e2 with ⟨rfl, rfl⟩ | ⟨k, rfl⟩
      · simp only [bndA, h1]
      · simp only [bndA]; rw [if_pos ⟨by omega, by omega⟩]; simp
    have b1 : bndA lo? 0 hi = some lo := by
      rcases e1 with ⟨rfl, rfl⟩ | ⟨k, rfl⟩
      · simp only [bndA]
      · simp only [bndA]; rw [if_pos ⟨by omega, by omega⟩]; simp
    unfold bndA at b1 b2
    rw [b2]; simp only
    rw [b1]
  cases h with
  | nil =>
    have h0 : hi = 0 := by simpa using hh
    have h1 : lo = 0 := by omega
    subst h0 h1
    refine ⟨.nilslice, ?_, .nil, (by intro b e off s n c h; cases h), (by intro b e off s n c h; cases h)⟩
    unfold sliceA
    simp only [ht, hi', he, bnd 0 0 rfl (Nat.le_refl _)]
    simp
  | old a n c _ h1 h2 h3 =>
    refine ⟨.oslice (if c = lo then a else a.add (lo * j.size)) (hi - lo) (c - lo), ?_, .old _ _ _ _ ?_ ?_ (by omega), (by intro b e off s n c h; cases h), (by intro b e off s n c h; cases h)⟩
    · unfold sliceA
      simp only [ht, hi', he, bnd n c (by omega) h3, Option.map_some]
    · simp only [List.length_drop, List.length_take]; omega
    · intro q x hx
      rw [List.getElem?_drop, List.getElem?_take] at hx
      split at hx
      · rename_i hq
        have hql := (List.getElem?_eq_some_iff.1 hx).1
        have := h2 (lo + q) x hx
        rw [if_neg (by omega), hj]
        obtain ⟨b, off, sp⟩ := a
        cases sp with
        | none => rw [addr_add] at this ⊢; rw [addr_add, show off + lo * 1 + q = off + (lo + q) by omega]; exact this
        | some s =>
          by_cases z1 : lo = 0
          · subst z1
            simp only [Nat.zero_mul, Nat.zero_add] at this ⊢
            have e : ({ block := b, off := off, spot := some s } : Addr).add 0 = { block := b, off := off, spot := some s } := by simp [Addr.add]
            rw [e]; exact this
          · by_cases z2 : q = 0
            · subst z2
              simp only [Nat.add_zero, Nat.mul_one] at this ⊢
              have e : ∀ y : Addr, y.add 0 = y := fun y => by unfold Addr.add; cases y with | mk b o s => cases s <;> simp
              rw [e]; exact this
            · simp only [Nat.mul_one]
              unfold Addr.add at this ⊢
              simp_all [Nat.add_assoc]
      · cases hx
  | own b e off n cap cs el' ep sep _ h1 h2 h3 h4 =>
    have hlen : cells.length = n := by rw [h4]; simp only [List.length_take, List.length_drop]; omega
    have hcells : ((cells.take hi).drop lo) = (cs.drop (off + lo)).take ((hi - lo) * 1) := by
      refine List.ext_getElem? fun q => ?_
      rw [List.getElem?_drop, List.getElem?_take, List.getElem?_take, List.getElem?_drop]
      by_cases hq : q < (hi - lo) * 1
      · rw [if_pos (by omega), if_pos hq, h4, List.getElem?_take, if_pos (by omega), List.getElem?_drop, show off + (lo + q) = off + lo + q by omega]
      · rw [if_neg (by omega), if_neg hq]
    cases cap with
    | none =>
      refine ⟨.slice b e (off + lo * 1) 1 (hi - lo) none, ?_, .own b e (off + lo * 1) (hi - lo) none cs el' ep sep _ h1 h2 (by omega) (by rw [hcells]; simp), (by intro b e off s n c h; cases h), (by intro b' e' off' s n c h; cases h; exact ⟨_, _, _, _, _, rfl⟩)⟩
      unfold sliceA
      simp only [ht, hi', he, hj, if_true, bnd n n hlen (Nat.le_refl _), Option.map_some, Option.isSome_none, Bool.false_eq_true, if_false]
    | some c =>
      have hnc := hc b e off 1 n c rfl
      refine ⟨.slice b e (off + lo * 1) 1 (hi - lo) (some (c - lo)), ?_, .own b e (off + lo * 1) (hi - lo) _ cs el' ep sep _ h1 h2 (by omega) (by rw [hcells]; simp), (by intro b e off s n c' h; cases h; omega), (by intro b' e' off' s n c h; cases h; exact ⟨_, _, _, _, _, rfl⟩)⟩
      unfold sliceA
      simp only [ht, hi', he, hj, if_true, bnd n c hlen hnc]
      rw [if_pos (by omega)]

set_option linter.defProp false in
def gT1 := And.intro @List.map_cons (And.intro @List.map_nil (And.intro @List.cons.injEq (And.intro @exists_eq_left' (And.intro @exists_eq_left (And.intro @exists_eq_right' (And.intro @eq_self (And.intro @Option.map_some (And.intro @Option.map_none (And.intro @Option.bind_some (And.intro @Option.bind_none (And.intro @Option.some.injEq (And.intro @Prod.mk.injEq (And.intro @beq_self_eq_true (And.intro @Option.bind_eq_bind (And.intro @Option.pure_def (And.intro @bind_pure_comp (And.intro @Option.map_eq_map (And.intro @decide_eq_true_eq (And.intro @ne_eq (And.intro @not_false_eq_true (And.intro @not_true_eq_false (And.intro @Nat.lt_irrefl (And.intro @if_true (And.intro @if_false (And.intro @ite_true (And.intro @ite_false (And.intro @Bool.false_eq_true (And.intro @Option.toList_some (And.intro @Option.toList_none (And.intro @Int.cast_ofNat_Int (And.intro @Nat.min_eq_left (And.intro @List.mapM_cons @List.mapM_nil))))))))))))))))))))))))))))))))
set_option linter.defProp false in
def gT := gT1.{0,0,0,0,0,0,0,0,0,0,0,0,0,0,0,0,0,0,0,1,1,1,0,1,1,0,0,0,0,0,0,0,0,0,0,1,1,1,1}

end Go.Proofs.YtaaecodkdgkjoaaDoor.E
