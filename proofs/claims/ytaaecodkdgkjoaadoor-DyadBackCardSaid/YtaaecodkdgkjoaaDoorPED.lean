/- Part of a claim: what a row's reading says of arguments without pointers. Nothing of a program stands here. -/
import Derived.Test.YtaaecodkdgkjoaaDoorPEC
import Derived.ChangeSlices
set_option linter.unusedSimpArgs false
set_option linter.unusedVariables false
namespace Go.Proofs.YtaaecodkdgkjoaaDoor.E
open Go Go.RowKit Go.ChangeShapes Go.WideShapes Go.ChangeAt

inductive Leaf where
  | bool
  | int (k : IntKind)
  | float (k : FloatKind)
  | str

def Fits : Leaf → Value → Prop
  | .bool, v => ∃ b, v = .bool b
  | .int k, v => ∃ n, v = .int k n ∧ k.min ≤ n ∧ n ≤ k.max
  | .float k, v => ∃ b, v = .float k b ∧ (Lit.float k b).wf = true
  | .str, v => ∃ s : List UInt8, v = .string ⟨⟨s⟩⟩ ∧ s.length ≤ maxLen

def Fit2 : List Leaf → List Value → Prop
  | [], [] => True
  | k :: ks, v :: vs => Fits k v ∧ Fit2 ks vs
  | _, _ => False

theorem Fit2.append : ∀ {ks ks' : List Leaf} {vs vs' : List Value}, Fit2 ks vs → Fit2 ks' vs' → Fit2 (ks ++ ks') (vs ++ vs')
  | [], _, [], _, _, h => h
  | [], _, _ :: _, _, h, _ => h.elim
  | _ :: _, _, [], _, h, _ => h.elim
  | _ :: _, _, _ :: _, _, ⟨h1, h2⟩, h => ⟨h1, Fit2.append h2 h⟩

def leavesS (P : Program) (f : TypeId → Option (List Leaf)) : Nat → List Field → Option (List Leaf)
  | _, [] => some []
  | off, fd :: fs =>
    match f fd.type, leavesS P f (off + P.cellsOf fd.type) fs with
    | some a, some b => if fd.offset = off then some (a ++ b) else none
    | _, _ => none

/-- The kinds of a type's cells. -/
def leaves (P : Program) : Nat → TypeId → Option (List Leaf)
  | 0, _ => none
  | n + 1, t =>
    match P.underlying t with
    | some .bool => some [.bool]
    | some (.int k) => some [.int k]
    | some (.float k) => some [.float k]
    | some .string => some [.str]
    | some (.struct fs) => if P.cellsOf t = fieldsSum P fs.toList then leavesS P (leaves P n) 0 fs.toList else none
    | _ => none

theorem leavesS_ok {P : Program} {f : TypeId → Option (List Leaf)} {cs : List Value} : ∀ (fs : List Field) (l : List Leaf) (off : Nat), leavesS P f off fs = some l → cs.length = off + fieldsSum P fs →
    (∀ (i : Nat) (fd : Field) (a : List Leaf), fs[i]? = some fd → f fd.type = some a → Fit2 a ((cs.drop fd.offset).take (P.cellsOf fd.type))) → Fit2 l (cs.drop off)
  | [], l, off, h, hl, _ => by
    simp only [leavesS] at h; cases h
    rw [List.drop_of_length_le (by simp [fieldsSum] at hl; omega)]; trivial
  | fd :: fs, l, off, h, hl, he => by
    simp only [leavesS] at h
    split at h
    · rename_i a b ha hb
      split at h
      · rename_i hs
        cases h
        rw [← List.take_append_drop (P.cellsOf fd.type) (cs.drop off), List.drop_drop]
        refine Fit2.append ?_ ?_
        · have := he 0 fd a rfl ha
          rw [hs] at this
          exact this
        · exact leavesS_ok fs b _ hb (by rw [hl, fieldsSum]; omega) fun i fd' a' hf ha' => he (i + 1) fd' a' (by simpa using hf) ha'
      · cases h
    · cases h

theorem leaves_ok {H : Type} {enc : TypeId × Value → H} {P : Program} {W : World} {base : Nat} {sp : Nat → Bool} {held : Bool} : ∀ (n : Nat) (t : TypeId) (l : List Leaf) (fuel : Nat) (cs : List Value) (x : DataW H × List MemPlace), leaves P n t = some l →
    DataW.trod enc P W base sp held fuel t cs = some x → Fit2 l cs
  | 0, _, _, _, _, _, h, _ => by simp [leaves] at h
  | n + 1, t, l, 0, cs, x, _, h => by simp [DataW.trod] at h
  | n + 1, t, l, fuel + 1, cs, x, hf, h => by
    simp only [leaves] at hf
    split at hf
    · rename_i ht
      cases hf
      simp only [DataW.trod, ht] at h
      split at h <;> simp_all [Fit2, Fits]
    · rename_i k ht
      cases hf
      obtain ⟨m, h1, _, h3⟩ := DataW.trod_int ht h
      subst h1
      have h4 : (decide (k.min ≤ m) && decide (m ≤ k.max)) = true := h3
      simp only [Bool.and_eq_true, decide_eq_true_eq] at h4
      exact ⟨⟨m, rfl, h4⟩, trivial⟩
    · rename_i ht
      cases hf
      simp only [DataW.trod, ht] at h
      split at h <;> simp_all [Fit2, Fits]
    · rename_i ht
      cases hf
      simp only [DataW.trod, ht] at h
      split at h <;> simp_all [Fit2, Fits]
      rename_i s
      exact ⟨s.data.toList, rfl, h.1⟩
    · rename_i fs ht
      split at hf
      · rename_i hc
        simp only [DataW.trod, ht] at h
        split at h
        · rename_i hl
          obtain ⟨xs, hm, hx⟩ := Option.map_eq_some_iff.1 h
          have := leavesS_ok (P := P) (cs := cs) fs.toList l 0 hf (by rw [hl, hc]; omega) fun i fd a hfd ha => by
            obtain ⟨b, hb, hb2⟩ := Lib.mapM_at hm i fd hfd
            exact leaves_ok n fd.type a fuel _ b ha hb2
          simpa using this
        · cases h
      · cases hf
    · cases hf

def isStructT (P : Program) (t : TypeId) : Bool := match P.underlying t with | some (.struct _) => true | _ => false

/-- A struct without pointers, opened. -/
theorem open_struct {H : Type} {enc : TypeId × Value → H} {P : Program} {W : World} {r : Reach} {b0 base : Nat} {sp : Nat → Bool} {held : Bool} {v : Value} {d : DataW H} {ps : List MemPlace} {t : TypeId} {l : List Leaf} {n : Nat}
    (hu : isStructT P t = true) (hl : leaves P n t = some l) (hval : Value.okWide P W r b0 t v) (h : DataW.Trod enc P W base sp held t v d ps) : ∃ cs : List Value, v = .agg cs.toArray ∧ Fit2 l cs := by
  unfold isStructT at hu
  split at hu
  rotate_left
  · cases hu
  rename_i fs hu2
  unfold Value.okWide at hval
  rw [hu2] at hval
  obtain ⟨cs, rfl, _, _⟩ := hval
  obtain ⟨fuel, h⟩ := h
  exact ⟨cs.toList, by simp, leaves_ok n t l fuel _ _ hl h⟩

theorem fit3 {k1 k2 k3 : IntKind} {cs : List Value} (h : Fit2 [.int k1, .int k2, .int k3] cs) : ∃ a b c : Int, cs = [.int k1 a, .int k2 b, .int k3 c] ∧ (k1.min ≤ a ∧ a ≤ k1.max) ∧ (k2.min ≤ b ∧ b ≤ k2.max) ∧ (k3.min ≤ c ∧ c ≤ k3.max) := by
  match cs, h with
  | [_, _, _], ⟨⟨a, rfl, ra⟩, ⟨b, rfl, rb⟩, ⟨c, rfl, rc⟩, _⟩ => exact ⟨a, b, c, rfl, ra, rb, rc⟩
/-- What is run, out of a contract. -/
theorem run_true {P : Program} {k : FuncId} {fn : Func} {c : Code} {M : Addr → Option AV} {args : List AV} {cargs : Array Value} {W : World} (hf : P.funcs[k]? = some fn) (hname : (fn.name == "runtime.NumGoroutine") = false) (hb : fn.body = some c)
    (hM : MOK M W) (h : SemF P M k args [] fun v _ => v = .bool true) (ha : VRs (fun _ _ => none) args cargs.toList) : Calls P k cargs W fun e W' => e = .returned (.bool true) ∧ Below W.heap.size W W' := by
  refine ((h W W (fun _ _ => none) cargs hM (Rel.start W) ha).calls hf hname hb).mono fun e W' he => ?_
  cases e with
  | returned cv =>
    obtain ⟨v, H', ρ', rfl, _, hv, hr⟩ := he
    simp only [VR] at hv
    exact ⟨by rw [hv], hr.below⟩
  | panicked => exact he.elim
  | outgrown => exact he.elim

end Go.Proofs.YtaaecodkdgkjoaaDoor.E
