/- Part of a claim: the operations' soundness, second part: numbers, comparisons, parts. Nothing of a program stands here. -/
import Derived.Test.YtnmignkabcblgaaDoorE5
set_option linter.unusedSimpArgs false
set_option linter.unusedVariables false
namespace Go.Proofs.YtnmignkabcblgaaDoor.E
open Go Go.RowKit

theorem order_nan_l {k : FloatKind} {a : Nat} (h : isNaN k a = true) (b : Nat) : k.format.order a b = none := by
  unfold isNaN at h
  unfold Ieee.Format.order
  cases hr : k.format.read a <;> rw [hr] at h <;> simp [Ieee.Datum.isNaN] at h
  cases k.format.read b <;> rfl

theorem order_nan_r {k : FloatKind} {b : Nat} (h : isNaN k b = true) (a : Nat) : k.format.order a b = none := by
  unfold isNaN at h
  unfold Ieee.Format.order
  cases hr : k.format.read b <;> rw [hr] at h <;> simp [Ieee.Datum.isNaN] at h
  cases k.format.read a <;> rfl

theorem FR.order {k : FloatKind} {a a' b b' : Nat} (ha : FR k a a') (hb : FR k b b') : k.format.order a b = k.format.order a' b' := by
  rcases ha with rfl | ⟨h1, h2⟩
  · rcases hb with rfl | ⟨h3, h4⟩
    · rfl
    · rw [order_nan_r h3, order_nan_r h4]
  · rw [order_nan_l h1, order_nan_l h2]

def fBits (op : BinOp) (k : FloatKind) (a b : Nat) : Option Nat :=
  match op with
  | .add => k.format.add a b
  | .sub => k.format.sub a b
  | .mul => k.format.mul a b
  | .quo => k.format.div a b
  | _ => none

theorem fBits_nan_l (op : BinOp) {k : FloatKind} {a : Nat} (h : isNaN k a = true) (b : Nat) : fBits op k a b = none := by
  unfold isNaN at h
  cases hr : k.format.read a <;> rw [hr] at h <;> simp [Ieee.Datum.isNaN] at h
  cases op <;> simp only [fBits, Ieee.Format.add, Ieee.Format.sub, Ieee.Format.mul, Ieee.Format.div, hr] <;> cases k.format.read b <;> rfl

theorem fBits_nan_r (op : BinOp) {k : FloatKind} {b : Nat} (h : isNaN k b = true) (a : Nat) : fBits op k a b = none := by
  unfold isNaN at h
  cases hr : k.format.read b <;> rw [hr] at h <;> simp [Ieee.Datum.isNaN] at h
  cases op <;> simp only [fBits, Ieee.Format.add, Ieee.Format.sub, Ieee.Format.mul, Ieee.Format.div, hr, Ieee.Datum.opposite] <;> cases k.format.read a <;> rfl

theorem FR.bits {op : BinOp} {k : FloatKind} {a a' b b' : Nat} (ha : FR k a a') (hb : FR k b b') : fBits op k a b = fBits op k a' b' := by
  rcases ha with rfl | ⟨h1, h2⟩
  · rcases hb with rfl | ⟨h3, h4⟩
    · rfl
    · rw [fBits_nan_r op h3, fBits_nan_r op h4]
  · rw [fBits_nan_l op h1, fBits_nan_l op h2]

theorem fArith_eq {op : BinOp} {k : FloatKind} {a b r : Nat} (h : fArith op k a b = some r) : (op = .add ∨ op = .sub ∨ op = .mul ∨ op = .quo) ∧ r = (fBits op k a b).getD (aNaN k) := by
  cases op <;> simp only [fArith, Option.some.injEq] at h <;> first | (cases h; done) | (subst h; simp [fBits])

theorem nan_read {k : FloatKind} {s f : Nat} (hf : 0 < f) (hf2 : f < k.format.binade) : isNaN k (s * k.format.signWeight + k.format.infRung + f) = true := by
  have e2 : (s * k.format.signWeight + k.format.infRung + f) % k.format.signWeight = k.format.infRung + f := by
    cases k
    · have : f < 8388608 := hf2
      show (s * 2147483648 + 2139095040 + f) % 2147483648 = 2139095040 + f
      omega
    · have : f < 4503599627370496 := hf2
      show (s * 9223372036854775808 + 9218868437227405312 + f) % 9223372036854775808 = 9218868437227405312 + f
      omega
  unfold isNaN Ieee.Format.read
  simp only [e2]
  have hb : k.format.binade ≤ k.format.infRung := by cases k <;> decide
  rw [if_neg (by omega), if_neg (by omega), if_neg (by omega)]
  rfl

theorem nan_cut (k : FloatKind) (x y t : Nat) : isNaN k ((Question.nanBits k x y).cut t) = true := by
  cases k
  · have h := nan_read (k := .f32) (s := t % 2) (f := 1 + (t / 2) % (2 ^ 23 - 1)) (by omega) (by
      show 1 + (t / 2) % (2 ^ 23 - 1) < 8388608
      omega)
    have e : (Question.nanBits .f32 x y).cut t = t % 2 * FloatKind.f32.format.signWeight + FloatKind.f32.format.infRung + (1 + (t / 2) % (2 ^ 23 - 1)) := by
      show (t % 2) * 2 ^ 31 + 0x7f800000 + 1 + (t / 2) % (2 ^ 23 - 1) = t % 2 * 2147483648 + 2139095040 + (1 + (t / 2) % (2 ^ 23 - 1))
      omega
    rw [e]; exact h
  · have h := nan_read (k := .f64) (s := t % 2) (f := 1 + (t / 2) % (2 ^ 52 - 1)) (by omega) (by
      show 1 + (t / 2) % (2 ^ 52 - 1) < 4503599627370496
      omega)
    have e : (Question.nanBits .f64 x y).cut t = t % 2 * FloatKind.f64.format.signWeight + FloatKind.f64.format.infRung + (1 + (t / 2) % (2 ^ 52 - 1)) := by
      show (t % 2) * 2 ^ 63 + 0x7ff0000000000000 + 1 + (t / 2) % (2 ^ 52 - 1) = t % 2 * 9223372036854775808 + 9218868437227405312 + (1 + (t / 2) % (2 ^ 52 - 1))
      omega
    rw [e]; exact h

theorem nan_aNaN (k : FloatKind) : isNaN k (aNaN k) = true := by cases k <;> decide

theorem run_choose {P : Program} (q : Question) (hq : q.forced = false) (W : World) : (choose q).run P W = .ok (q.cut (W.tape W.drawn q)) { W with drawn := W.drawn + 1 } := by
  simp [choose, Sem.run, hq]

theorem fArith_ok {P : Program} {op : BinOp} {k : FloatKind} {a b a' b' r : Nat} (h : fArith op k a b = some r) (ha : FR k a a') (hb : FR k b b') (W : World) :
    ∃ r' n, (Op.floatArith op k a' b').run P W = .ok (.float k r') { W with drawn := n } ∧ FR k r r' := by
  obtain ⟨hop, rfl⟩ := fArith_eq h
  have hbits := FR.bits (op := op) ha hb
  have hrun : (Op.floatArith op k a' b').run P W = (match fBits op k a' b' with
      | some r => .ok (.float k r) W
      | none => .ok (.float k ((Question.nanBits k a' b').cut (W.tape W.drawn (.nanBits k a' b')))) { W with drawn := W.drawn + 1 }) := by
    rcases hop with rfl | rfl | rfl | rfl
    · unfold Op.floatArith; simp only [fBits, Sem.run_bind, Sem.run_pure, Result.andThen_ok]
      cases k.format.add a' b' <;> simp [Sem.run_pure, Question.forced]
    · unfold Op.floatArith; simp only [fBits, Sem.run_bind, Sem.run_pure, Result.andThen_ok]
      cases k.format.sub a' b' <;> simp [Sem.run_pure, Question.forced]
    · unfold Op.floatArith; simp only [fBits, Sem.run_bind, Sem.run_pure, Result.andThen_ok]
      cases k.format.mul a' b' <;> simp [Sem.run_pure, Question.forced]
    · unfold Op.floatArith; simp only [fBits, Sem.run_bind, Sem.run_pure, Result.andThen_ok]
      cases k.format.div a' b' <;> simp [Sem.run_pure, Question.forced]
  rw [hbits]
  cases hr : fBits op k a' b' with
  | some r =>
    rw [hr] at hrun
    exact ⟨r, W.drawn, hrun, FR.refl _ _⟩
  | none =>
    rw [hr] at hrun
    exact ⟨_, _, hrun, .inr ⟨nan_aNaN k, nan_cut k a' b' _⟩⟩

theorem arith_ok {P : Program} {op : BinOp} {k : FloatKind} {a b a' b' r : Nat} (h : fArith op k a b = some r) (ha : FR k a a') (hb : FR k b b') (W : World) :
    ∃ r' n, (Op.Complex.arith op k a' b').run P W = .ok r' { W with drawn := n } ∧ FR k r r' := by
  obtain ⟨r', n, h1, h2⟩ := fArith_ok (P := P) h ha hb W
  refine ⟨r', n, ?_, h2⟩
  unfold Op.Complex.arith
  rw [Sem.run_bind, h1]
  simp [Sem.run_pure]

theorem part_ok {P : Program} {T : Tab} (hT : TOK P T) {ρ : Asg} {t : TypeId} {cs : List AV} {off : Nat} {x : AV} (h : partA T t cs off = some x) {vs : Array Value} (hv : VRs ρ cs vs.toList) (W : World) :
    ∃ cv, (part t vs off).run P W = .ok cv W ∧ VR ρ x cv := by
  unfold partA at h
  split at h
  · cases h
  · rename_i i ht
    unfold part
    split at h
    · rename_i hagg
      split at h
      · rename_i hle
        cases h
        refine ⟨.agg (vs.extract off (off + i.size)), ?_, ?_⟩
        · rw [Sem.run_bind, hT.run_isAgg ht, hagg]
          simp only [Result.andThen_ok, if_true, Sem.run_bind, hT.run_size ht, Sem.run_pure]
        · simp only [VR]
          refine ⟨_, rfl, ?_⟩
          rw [Array.toList_extract]
          have e : List.extract vs.toList off (off + i.size) = (vs.toList.drop off).take i.size := by
            simp [List.extract]
          rw [e]
          exact (hv.drop off).take i.size
      · cases h
    · rename_i hagg
      obtain ⟨cv, h1, h2⟩ := hv.get h
      refine ⟨cv, ?_, h2⟩
      rw [Sem.run_bind, hT.run_isAgg ht]
      rw [Array.getElem?_toList] at h1
      simp [hagg, h1, Sem.run_pure]

theorem field_ok {P : Program} {T : Tab} (hT : TOK P T) {ρ : Asg} {H : Heap} {W0 W : World} (hR : Rel ρ H W0 W) {s : TypeId} {x y : AV} {f : Nat} (h : fieldA T s x f = some y) {v : Value} (hx : VR ρ x v) :
    Yields P (Instr.field s v f) ρ W0 W y H := by
  unfold fieldA at h
  split at h
  · rename_i i cs ht
    split at h
    · rename_i fs hund
      split at h
      · rename_i fd hf
        simp only [VR] at hx
        obtain ⟨vs, rfl, hv⟩ := hx
        obtain ⟨cv, h1, h2⟩ := part_ok hT h hv W
        refine Yields.same ?_ h2 hR
        unfold Instr.field
        rw [Sem.run_bind, hT.run_und ht, hund]
        simp only [Result.andThen_ok, hf, Sem.run_bind, asAgg, Sem.run_pure]
        exact h1
      · cases h
    · cases h
  · cases h

theorem fieldAddr_ok {P : Program} {T : Tab} (hT : TOK P T) {ρ : Asg} {H : Heap} {W0 W : World} (hR : Rel ρ H W0 W) {s : TypeId} {x y : AV} {f : Nat} (h : fieldAddrA T H s x f = some y) {v : Value} (hx : VR ρ x v) :
    Yields P (Instr.fieldAt s v f) ρ W0 W y H := by
  unfold fieldAddrA at h
  split at h
  · cases h
  · rename_i i ht
    split at h
    · rename_i fs hund
      split at h
      · cases h
      · rename_i fd hf
        split at h
        · cases h
        · rename_i j hj
          split at h
          · cases h
          · rename_i hsz
            have hrun : ∀ a, v = .pointer (some a) → (Instr.fieldAt s v f).run P W = .ok (.pointer (some (a.add fd.offset))) W := by
              intro a ha
              subst ha
              unfold Instr.fieldAt fieldPlace
              rw [Sem.run_bind, hT.run_und ht, hund]
              simp only [Result.andThen_ok, hf, Sem.run_bind, Instr.sureAddr, Sem.run_pure, hT.run_size hj, if_neg hsz]
            split at h
            · rename_i b e off
              split at h
              · rename_i hok
                cases h
                simp only [VR] at hx
                obtain ⟨l, h1, h2, rfl⟩ := hx
                refine Yields.same (hrun _ rfl) ?_ hR
                simp only [VR]
                unfold ptrOK at hok
                split at hok
                · rename_i cells elem ep sep hb
                  simp only [Bool.and_eq_true, decide_eq_true_eq] at hok
                  obtain ⟨_, ⟨l', q1, q2⟩, _⟩ := hR.blk b _ hb
                  obtain ⟨rfl, hlt⟩ := hok
                  rw [h1] at q1; cases q1
                  exact ⟨l, h1, by omega, by rw [addr_add]⟩
                · cases hok
              · cases h
            · rename_i a
              cases h
              simp only [VR] at hx
              subst hx
              exact Yields.same (hrun _ rfl) (by simp only [VR]) hR
            · cases h
    · cases h

end Go.Proofs.YtnmignkabcblgaaDoor.E
