/- Part of a claim: a drawn region comes to what the text's order comes to. Nothing of a program stands here. -/
import Derived.Test.YtnmignkabcblgaaDoorE15
set_option linter.unusedSimpArgs false
set_option linter.unusedVariables false
namespace Go.Proofs.YtnmignkabcblgaaDoor.E
open Go Go.RowKit

/-! ### What stands ahead -/

theorem mask_fold {l : List Nat} {p : Nat} : ∀ (es : List Edge) (m : Nat), (es.foldl (fun m e => if Region.binds .any e then m ||| (1 <<< e.on) ||| l.getD e.on 0 else m) m).testBit p = true →
    m.testBit p = true ∨ ∃ e ∈ es, Region.binds .any e = true ∧ (e.on = p ∨ (l.getD e.on 0).testBit p = true)
  | [], m, h => .inl h
  | e :: es, m, h => by
    simp only [List.foldl_cons] at h
    rcases mask_fold es _ h with h | ⟨e', he, hb, h⟩
    · by_cases hb : Region.binds .any e = true
      · simp only [hb, if_true, Nat.testBit_or, Bool.or_eq_true] at h
        rcases h with (h | h) | h
        · exact .inl h
        · rw [Nat.testBit_shiftLeft] at h
          simp only [Bool.and_eq_true, decide_eq_true_eq] at h
          refine .inr ⟨e, List.mem_cons_self .., hb, .inl ?_⟩
          have h2 := h.2
          by_cases h0 : p - e.on = 0
          · omega
          · obtain ⟨k, hk⟩ : ∃ k, p - e.on = k + 1 := ⟨p - e.on - 1, by omega⟩
            rw [hk, Nat.testBit_succ] at h2
            simp at h2
        · exact .inr ⟨e, List.mem_cons_self .., hb, .inr h⟩
      · simp only [hb] at h; exact .inl h
    · exact .inr ⟨e', List.mem_cons_of_mem _ he, hb, h⟩

theorem masks_get {q : Nat} {o : Oper} : ∀ (os : List Oper) (l : List Nat), l.length ≤ q → os[q - l.length]? = some o → ∃ l', (∀ j, j < q → l'.getD j 0 = (masks os l).getD j 0) ∧ l'.length = q ∧ (masks os l).getD q 0 = maskOf l' o
  | [], l, h1, h2 => by simp at h2
  | x :: os, l, h1, h2 => by
    simp only [masks]
    by_cases hq : q = l.length
    · subst hq
      simp at h2; subst h2
      have keep : ∀ (os : List Oper) (l : List Nat) (j : Nat), j < l.length → (masks os l).getD j 0 = l.getD j 0 := by
        intro os
        induction os with
        | nil => intro l j _; rfl
        | cons y os ih => intro l j hj; simp only [masks]; rw [ih _ j (by simp; omega)]; simp [List.getD_eq_getElem?_getD, List.getElem?_append_left hj]
      refine ⟨l, fun j hj => ?_, rfl, ?_⟩
      · rw [keep os _ j (by simp; omega)]; simp [List.getD_eq_getElem?_getD, List.getElem?_append_left hj]
      · rw [keep os _ _ (by simp)]; simp [List.getD_eq_getElem?_getD]
    · have := masks_get (q := q) (o := o) os (l ++ [maskOf l x]) (by simp; omega) (by
        simp only [List.length_append, List.length_singleton]
        have e : q - l.length = (q - (l.length + 1)) + 1 := by omega
        rw [e] at h2; simpa using h2)
      exact this

/-- What is listed holds what its edges name. -/
def Closed (ops : Array Oper) (L : Nat → Bool) : Prop := ∀ (q : Nat) (o : Oper), ops[q]? = some o → L q = true → ∀ e ∈ o.after, Region.binds .any e = true → L e.on = true

theorem closed_mask {ops : Array Oper} {L : Nat → Bool} (hc : Closed ops L) (hb : ∀ (q : Nat) (o : Oper), ops[q]? = some o → ∀ e ∈ o.after, Region.binds .any e = true → e.on < q) :
    ∀ (n q : Nat), q < n → ∀ o p, ops[q]? = some o → (∀ e ∈ o.after, Region.binds .any e = true → L e.on = true) → ((masks ops.toList []).getD q 0).testBit p = true → L p = true
  | 0, q, hn, _, _, _, _, _ => by omega
  | n + 1, q, hn, o, p, ho, hL, hm => by
    obtain ⟨l', h1, h2, h3⟩ := masks_get (q := q) (o := o) ops.toList [] (by simp) (by simpa using ho)
    rw [h3] at hm
    unfold maskOf at hm
    rcases mask_fold _ _ hm with h | ⟨e, he, hbe, h⟩
    · simp at h
    · have he' : e ∈ o.after := by simpa using he
      rcases h with h | h
      · rw [← h]; exact hL e he' hbe
      · have hlt := hb q o ho e he' hbe
        have hoe := hL e he' hbe
        rw [h1 e.on hlt] at h
        cases hx : ops[e.on]? with
        | none =>
          have hs : ops.size ≤ e.on := by simpa using hx
          have : q < ops.size := (Array.getElem?_eq_some_iff.1 ho).1
          omega
        | some oe => exact closed_mask hc hb n e.on (by omega) oe p hx (hc _ _ hx hoe) h

/-! ### What the listed ones have left behind -/

abbrev Tr := List (Oper × AV × Heap)

def foldE : (Nat → Bool) → Tr → List AV → List AV
  | _, [], env => env
  | L, (o, v, _) :: r, env => foldE (fun j => L (j + 1)) r (if L 0 then putA env o.dst v else env)

def foldH (T : Tab) : (Nat → Bool) → Tr → Heap → Heap
  | _, [], H => H
  | L, (o, _, h) :: r, H => foldH T (fun j => L (j + 1)) r (if L 0 && heapKind T o.op == 2 then h else H)

theorem putA_get {env : List AV} {d : Option Tmp} {v : AV} {t : Nat} (h : d ≠ some t) : (putA env d v)[t]? = env[t]? := by
  cases d with
  | none => rfl
  | some d =>
    simp only [putA]
    rw [List.getElem?_set_ne (fun e => h (by rw [e]))]

theorem foldE_get {t : Nat} : ∀ (tr : Tr) (L L' : Nat → Bool) (env env' : List AV), (∀ (j : Nat) o v h, tr[j]? = some (o, v, h) → o.dst = some t → L j = L' j) → env[t]? = env'[t]? → (foldE L tr env)[t]? = (foldE L' tr env')[t]?
  | [], _, _, _, _, _, he => he
  | (o, v, h) :: r, L, L', env, env', hL, he => by
    simp only [foldE]
    refine foldE_get r _ _ _ _ (fun j o v h hj hd => hL (j + 1) o v h (by simpa using hj) hd) ?_
    by_cases hd : o.dst = some t
    · rw [← hL 0 o v h rfl hd]
      cases L 0
      · exact he
      · simp only [if_true, hd, putA, List.getElem?_set_self', he]
    · have : ∀ (b : Bool) (e : List AV), (if b then putA e o.dst v else e)[t]? = e[t]? := fun b e => by cases b <;> simp [putA_get hd]
      rw [this, this, he]

theorem foldE_length : ∀ (tr : Tr) (L : Nat → Bool) (env : List AV), (foldE L tr env).length = env.length
  | [], _, _ => rfl
  | (o, v, h) :: r, L, env => by
    simp only [foldE]
    rw [foldE_length r]
    split
    · cases o.dst <;> simp [putA]
    · rfl

theorem foldE_congr : ∀ (tr : Tr) (L L' : Nat → Bool) (env : List AV), (∀ j, j < tr.length → L j = L' j) → foldE L tr env = foldE L' tr env
  | [], _, _, _, _ => rfl
  | (o, v, h) :: r, L, L', env, hL => by
    simp only [foldE]
    rw [hL 0 (by simp)]
    exact foldE_congr r _ _ _ fun j hj => hL (j + 1) (by simpa using hj)

theorem foldE_none (tr : Tr) (L : Nat → Bool) (env : List AV) (h : ∀ j, j < tr.length → L j = false) : foldE L tr env = env := by
  induction tr generalizing L with
  | nil => rfl
  | cons x r ih =>
    obtain ⟨o, v, hh⟩ := x
    simp only [foldE]
    rw [h 0 (by simp)]
    exact ih _ fun j hj => h (j + 1) (by simpa using hj)

theorem putA_comm {env : List AV} {d e : Option Tmp} {v u : AV} (h : ∀ x, d = some x → e ≠ some x) : putA (putA env d v) e u = putA (putA env e u) d v := by
  cases d with
  | none => rfl
  | some d =>
    cases e with
    | none => rfl
    | some e =>
      simp only [putA]
      exact List.set_comm _ _ (fun he => h d rfl (by rw [he]))

theorem foldE_put {d : Option Tmp} {u : AV} : ∀ (tr : Tr) (L : Nat → Bool) (env : List AV), (∀ (j : Nat) o v h, tr[j]? = some (o, v, h) → L j = true → ∀ x, o.dst = some x → d ≠ some x) → foldE L tr (putA env d u) = putA (foldE L tr env) d u
  | [], _, _, _ => rfl
  | (o, v, h) :: r, L, env, hL => by
    simp only [foldE]
    rw [← foldE_put r _ _ fun j o v h hj hl => hL (j + 1) o v h (by simpa using hj) hl]
    cases h0 : L 0 with
    | false => rfl
    | true =>
      simp only [if_true]
      rw [putA_comm (hL 0 o v h rfl h0)]

theorem foldE_add {o : Oper} {v : AV} {h : Heap} : ∀ (tr : Tr) (i : Nat) (L : Nat → Bool) (env : List AV), tr[i]? = some (o, v, h) → L i = false →
    (∀ (j : Nat) o' v' h', i < j → tr[j]? = some (o', v', h') → L j = true → ∀ x, o'.dst = some x → o.dst ≠ some x) → foldE (fun j => L j || j == i) tr env = putA (foldE L tr env) o.dst v
  | [], _, _, _, ht, _, _ => by simp at ht
  | (o', v', h') :: r, 0, L, env, ht, hi, hL => by
    simp only [List.getElem?_cons_zero, Option.some.injEq, Prod.mk.injEq] at ht
    obtain ⟨rfl, rfl, rfl⟩ := ht
    simp only [foldE, hi]
    have e : (fun j => L (j + 1) || (j + 1 == 0)) = fun j => L (j + 1) := by funext j; simp
    rw [e, ← foldE_put r _ _ fun j o v h hj hl => hL (j + 1) o v h (by omega) (by simpa using hj) hl]
    simp
  | (o', v', h') :: r, i + 1, L, env, ht, hi, hL => by
    simp only [foldE]
    have e : (fun j => L (j + 1) || (j + 1 == i + 1)) = fun j => (fun j => L (j + 1)) j || j == i := by funext j; simp
    have e0 : (L 0 || (0 == i + 1)) = L 0 := by simp
    rw [e]
    simp only [e0]
    exact foldE_add r i (fun j => L (j + 1)) _ (by simpa using ht) hi fun j o' v' h' hij hj hl => hL (j + 1) o' v' h' (by omega) (by simpa using hj) hl

theorem foldH_congr {T : Tab} : ∀ (tr : Tr) (L L' : Nat → Bool) (H : Heap), (∀ (j : Nat) o v h, tr[j]? = some (o, v, h) → heapKind T o.op = 2 → L j = L' j) → foldH T L tr H = foldH T L' tr H
  | [], _, _, _, _ => rfl
  | (o, v, h) :: r, L, L', H, hL => by
    simp only [foldH]
    rw [foldH_congr r _ (fun j => L' (j + 1)) _ fun j o v h hj hk => hL (j + 1) o v h (by simpa using hj) hk]
    by_cases hk : heapKind T o.op = 2
    · rw [hL 0 o v h rfl hk]
    · have : (heapKind T o.op == 2) = false := by simp [hk]
      simp only [this, Bool.and_false]

theorem foldH_none {T : Tab} (tr : Tr) (L : Nat → Bool) (H : Heap) (h : ∀ (j : Nat) o v h, tr[j]? = some (o, v, h) → heapKind T o.op = 2 → L j = false) : foldH T L tr H = H := by
  induction tr generalizing L with
  | nil => rfl
  | cons x r ih =>
    obtain ⟨o, v, hh⟩ := x
    simp only [foldH]
    have : (L 0 && heapKind T o.op == 2) = false := by
      by_cases hk : heapKind T o.op = 2
      · rw [h 0 o v hh rfl hk]; rfl
      · simp [hk]
    rw [this]
    exact ih _ fun j o v h' hj hk => h (j + 1) o v h' (by simpa using hj) hk

theorem foldH_add {T : Tab} {o : Oper} {v : AV} {h : Heap} : ∀ (tr : Tr) (i : Nat) (L : Nat → Bool) (H : Heap), tr[i]? = some (o, v, h) → heapKind T o.op = 2 →
    (∀ (j : Nat) o' v' h', i < j → tr[j]? = some (o', v', h') → heapKind T o'.op = 2 → L j = false) → foldH T (fun j => L j || j == i) tr H = h
  | [], _, _, _, ht, _, _ => by simp at ht
  | (o', v', h') :: r, 0, L, H, ht, hk, hL => by
    simp only [List.getElem?_cons_zero, Option.some.injEq, Prod.mk.injEq] at ht
    obtain ⟨rfl, rfl, rfl⟩ := ht
    simp only [foldH]
    rw [foldH_none]
    · simp [hk]
    · intro j o v h hj hk'
      simp [hL (j + 1) o v h (by omega) (by simpa using hj) hk']
  | (o', v', h') :: r, i + 1, L, H, ht, hk, hL => by
    simp only [foldH]
    have e : (fun j => L (j + 1) || (j + 1 == i + 1)) = fun j => (fun j => L (j + 1)) j || j == i := by funext j; simp
    rw [e]
    exact foldH_add r i (fun j => L (j + 1)) _ (by simpa using ht) hk fun j o' v' h' hij hj hl => hL (j + 1) o' v' h' (by omega) (by simpa using hj) hl

theorem StepD.kept {P : Program} {T : Tab} {M : Addr → Option AV} {o : Oper} {env : List AV} {H H' : Heap} {v : AV} (h : StepD P T M o env H v H') (hk : heapKind T o.op ≠ 2) : H' = H := by
  unfold StepD at h
  split at h
  · rename_i f args hc
    exfalso
    apply hk
    unfold callOf at hc
    split at hc
    · rename_i hq; rw [hq]; rfl
    · cases hc
  · have : heapKind T o.op ≤ 2 := by
      unfold heapKind
      split <;> (try split) <;> (try split) <;> omega
    exact evOp_reads (by omega) h

theorem StepG.kept {P : Program} {T : Tab} {M : Addr → Option AV} {ops : Array Oper} {o : Oper} {env : List AV} {H H' : Heap} {v : AV} (h : StepG P T M ops o env H v H') (hk : heapKind T o.op ≠ 2) : H' = H := by
  rcases h with ⟨_, h⟩ | ⟨_, _, h⟩
  · exact h.kept hk
  · exact h

/-- The run in the text's order, laid out. -/
theorem RunD.trace {P : Program} {T : Tab} {M : Addr → Option AV} {ops : Array Oper} : ∀ (os : List Oper) (env : List AV) (H : Heap) (env' : List AV) (H' : Heap), RunD P T M ops os env H env' H' →
    ∃ tr : Tr, tr.map (·.1) = os ∧ (∀ (i : Nat) o v h, tr[i]? = some (o, v, h) → StepG P T M ops o (foldE (fun j => decide (j < i)) tr env) (foldH T (fun j => decide (j < i)) tr H) v h) ∧
      env' = foldE (fun _ => true) tr env ∧ H' = foldH T (fun _ => true) tr H
  | [], env, H, env', H', h => ⟨[], rfl, fun i o v h hi => by simp at hi, h.1, h.2⟩
  | o :: os, env, H, env', H', h => by
    obtain ⟨v, H1, hs, hr⟩ := h
    obtain ⟨tr, e1, e2, e3, e4⟩ := RunD.trace os _ _ _ _ hr
    have hH : (if (true && heapKind T o.op == 2) = true then H1 else H) = H1 := by
      by_cases hk : heapKind T o.op = 2
      · simp [hk]
      · simp [hk, hs.kept hk]
    refine ⟨(o, v, H1) :: tr, by simp [e1], fun i o' v' h' hi => ?_, ?_, ?_⟩
    · cases i with
      | zero =>
        simp only [List.getElem?_cons_zero, Option.some.injEq, Prod.mk.injEq] at hi
        obtain ⟨rfl, rfl, rfl⟩ := hi
        rw [foldE_none _ _ _ fun j _ => by simp, foldH_none _ _ _ fun j _ _ _ _ _ => by simp]
        exact hs
      | succ i =>
        simp only [foldE, foldH]
        have e : (fun j => decide (j + 1 < i + 1)) = fun j => decide (j < i) := by funext j; simp
        have e0 : decide (0 < i + 1) = true := by simp
        rw [e]
        simp only [e0, hH, if_true]
        exact e2 i o' v' h' (by simpa using hi)
    · simp only [foldE, if_true]; exact e3
    · simp only [foldH, hH]; exact e4

end Go.Proofs.YtnmignkabcblgaaDoor.E
