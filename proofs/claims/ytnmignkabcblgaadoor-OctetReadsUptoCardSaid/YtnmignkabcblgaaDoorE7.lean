/- Part of a claim: the operations' soundness, third part: equality, binary and unary operators. Nothing of a program stands here. -/
import Derived.Test.YtnmignkabcblgaaDoorE6
import Derived.LaidEql
import Derived.Laws.StructEq
set_option linter.unusedSimpArgs false
set_option linter.unusedVariables false
namespace Go.Proofs.YtnmignkabcblgaaDoor.E
open Go Go.RowKit

theorem bytes_toList (s : List UInt8) : (ByteArray.mk ⟨s⟩).toList = s := by rw [ByteArray.toList_eq]

theorem bytes_beq (a b : List UInt8) : ((ByteArray.mk ⟨a⟩) == (ByteArray.mk ⟨b⟩)) = (a == b) := by
  rw [beq_toListBytes, bytes_toList, bytes_toList]

/-- A value that is no interface, slice, struct ..: what its relation says, laid open. -/
theorem eq_ok {P : Program} {T : Tab} (hT : TOK P T) {ρ : Asg} {W : World} : ∀ n : Nat,
    (∀ (t : TypeId) (x y : AV) (b : Bool) (d : Nat) (u v : Value), eqA T n t x y = some b → n ≤ d → VR ρ x u → VR ρ y v → (Op.equalIn d t u v).run P W = .ok b W) ∧
    (∀ (fs : List Field) (xs ys : List AV) (b : Bool) (d : Nat) (us vs : Array Value), eqFs T n fs xs ys = some b → n ≤ d → VRs ρ xs us.toList → VRs ρ ys vs.toList →
      (Op.eqFields d us vs fs).run P W = .ok b W)
  | 0 => by
    refine ⟨fun t x y b d u v h => by simp [eqA] at h, fun fs xs ys b d us vs h _ _ _ => ?_⟩
    cases fs with
    | nil => simp only [eqFs, Option.some.injEq] at h; subst h; simp [Op.eqFields, Sem.run_pure]
    | cons f fs => simp [eqFs] at h
  | n + 1 => by
    obtain ⟨ih1, ih2⟩ := eq_ok hT (ρ := ρ) (W := W) n
    refine ⟨fun t x y b d u v h hd hx hy => ?_, fun fs xs ys b d us vs h hd hxs hys => ?_⟩
    · obtain ⟨d, rfl⟩ : ∃ m, d = m + 1 := ⟨d - 1, by omega⟩
      unfold eqA at h
      split at h
      · cases h
      · rename_i i ht
        have hu := hT.run_und ht W
        split at h <;> try simp only [VR] at hx hy
        · subst hx; subst hy; cases h; rename_i hund; rw [hund] at hu; simp [Op.equalIn, Sem.run_bind, hu, Sem.run_pure]
        · subst hx; subst hy; rename_i hund; rw [hund] at hu
          split at h
          · rename_i hk; subst hk; cases h; simp [Op.equalIn, Sem.run_bind, hu, Sem.run_pure]
          · cases h
        · obtain ⟨a', rfl, ha⟩ := hx; obtain ⟨b', rfl, hb⟩ := hy; rename_i hund; rw [hund] at hu
          split at h
          · rename_i hk; subst hk; cases h; simp [Op.equalIn, Sem.run_bind, hu, Sem.run_pure, Op.floatEq, FR.order ha hb]
          · cases h
        · obtain ⟨a', b', rfl, ha, hb⟩ := hx; obtain ⟨c', d', rfl, hc, hd'⟩ := hy; rename_i hund; rw [hund] at hu
          split at h
          · rename_i hk; subst hk; cases h; simp [Op.equalIn, Sem.run_bind, hu, Sem.run_pure, Op.floatEq, FR.order ha hc, FR.order hb hd']
          · cases h
        · subst hx; subst hy; cases h; rename_i hund; rw [hund] at hu; simp only [Op.equalIn, Sem.run_bind, hu, Sem.run_pure, Result.andThen_ok, bytes_beq]
        · subst hx; subst hy; cases h; rename_i hund; rw [hund] at hu; simp [Op.equalIn, Sem.run_bind, hu, Sem.run_pure]
        · rename_i hund; rw [hund] at hu; obtain ⟨l, _, _, rfl⟩ := hy; subst hx; cases h; simp [Op.equalIn, Sem.run_bind, hu, Sem.run_pure]
        · rename_i hund; rw [hund] at hu; obtain ⟨l, _, _, rfl⟩ := hx; subst hy; cases h; simp [Op.equalIn, Sem.run_bind, hu, Sem.run_pure]
        · subst hx; subst hy; cases h; rename_i hund; rw [hund] at hu; simp [Op.equalIn, Sem.run_bind, hu, Sem.run_pure]
        · subst hx; subst hy; cases h; rename_i hund; rw [hund] at hu; simp [Op.equalIn, Sem.run_bind, hu, Sem.run_pure]
        · rename_i e b1 e1 o1 b2 e2 o2 hund
          obtain ⟨l1, h1, _, rfl⟩ := hx
          obtain ⟨l2, h2, _, rfl⟩ := hy
          rw [hund] at hu
          split at h
          · rename_i j hj
            split at h
            · rename_i hc
              obtain ⟨hsz, rfl, rfl⟩ := hc
              rw [h1] at h2; cases h2
              cases h
              simp only [Op.equalIn, Sem.run_bind, hu, Result.andThen_ok, hT.run_size hj]
              rw [if_pos hsz]
              simp only [sameAddr, BEq.rfl, if_true, Sem.run_pure]
              congr 1
              rw [Bool.eq_iff_iff]
              simp
            · cases h
          · cases h
        · subst hx; subst hy; cases h; rename_i hund; rw [hund] at hu; simp [Op.equalIn, Sem.run_bind, hu, Sem.run_pure]
        · rename_i hund; rw [hund] at hu; obtain ⟨z, rfl, _⟩ := hy; subst hx; cases h; simp [Op.equalIn, Sem.run_bind, hu, Sem.run_pure]
        · rename_i hund; rw [hund] at hu; obtain ⟨z, rfl, _⟩ := hx; subst hy; cases h; simp [Op.equalIn, Sem.run_bind, hu, Sem.run_pure]
        · subst hx; subst hy; cases h; rename_i hund; rw [hund] at hu; simp [Op.equalIn, Sem.run_bind, hu, Sem.run_pure]
        · rename_i hund; rw [hund] at hu; obtain ⟨l, a, c, _, rfl, _⟩ := hy; subst hx; cases h; simp [Op.equalIn, Sem.run_bind, hu, Sem.run_pure]
        · rename_i hund; rw [hund] at hu; obtain ⟨l, a, c, _, rfl, _⟩ := hx; subst hy; cases h; simp [Op.equalIn, Sem.run_bind, hu, Sem.run_pure]
        · subst hx; subst hy; cases h; rename_i hund; rw [hund] at hu; simp [Op.equalIn, Sem.run_bind, hu, Sem.run_pure]
        · subst hx; subst hy; cases h; rename_i hund; rw [hund] at hu; simp [Op.equalIn, Sem.run_bind, hu, Sem.run_pure]
        · rename_i fs xs ys hund
          obtain ⟨us, rfl, hxs⟩ := hx
          obtain ⟨vs, rfl, hys⟩ := hy
          have hund' := hT.und ht
          rw [hund] at hund'
          split at h
          · cases h
          · rename_i hst
            have hf : P.fieldsOf t = fs := by simp [Program.fieldsOf, hund']
            rw [run_equalIn_struct W d t us vs (by rw [hf]; exact hund') (by rw [hT.stood ht]; simpa using hst), hf]
            exact ih2 fs.toList xs ys b d us vs h (by omega) hxs hys
        · cases h
    · cases fs with
      | nil => simp only [eqFs, Option.some.injEq] at h; subst h; simp [Op.eqFields, Sem.run_pure]
      | cons f fs =>
        simp only [eqFs] at h
        split at h
        · cases h
        · rename_i hname
          split at h
          · rename_i a b' ha hb
            obtain ⟨u, p1, p2⟩ := part_ok hT ha hxs W
            obtain ⟨v, q1, q2⟩ := part_ok hT hb hys W
            simp only [Op.eqFields, ne_eq, hname, not_false_eq_true, if_true, Sem.run_bind, p1, q1, Result.andThen_ok]
            split at h
            · rename_i he
              rw [ih1 _ _ _ _ d u v he (by omega) p2 q2]
              simp only [Result.andThen_ok, Bool.not_true, Bool.false_eq_true, if_false]
              exact ih2 fs xs ys b d us vs h (by omega) hxs hys
            · rename_i he
              cases h
              rw [ih1 _ _ _ _ d u v he (by omega) p2 q2]
              simp [Sem.run_pure]
            · cases h
          · cases h

/-- The one value that a plain abstract value stands for. -/
def cvOf : AV → Value
  | .int k n => .int k n
  | .bool b => .bool b
  | .str s => .string ⟨⟨s⟩⟩
  | _ => undef

theorem intOp_ok {P : Program} {op : BinOp} {k : IntKind} {a b : Int} {x : AV} (h : intOp op k a b = some x) (hop : op ≠ .shl ∧ op ≠ .shr) (t : TypeId) (W : World) :
    (binOp op t (.int k a) (.int k b)).run P W = .ok (cvOf x) W ∧ ∀ ρ, VR ρ x (cvOf x) := by
  cases op <;> simp only [intOp] at h
  case shl => exact absurd rfl hop.1
  case shr => exact absurd rfl hop.2
  case quo =>
    split at h
    · cases h
    · rename_i hb
      cases h
      exact ⟨by simp [binOp, Op.intDiv, hb, cvOf, Sem.run_pure], fun ρ => by simp only [VR, cvOf]⟩
  case rem =>
    split at h
    · cases h
    · rename_i hb
      cases h
      exact ⟨by simp [binOp, Op.intDiv, hb, cvOf, Sem.run_pure], fun ρ => by simp only [VR, cvOf]⟩
  all_goals first
    | (cases h; done)
    | (cases h
       exact ⟨by simp [binOp, Op.intArith, Op.intBits, Op.intCmp, cvOf, Sem.run_pure], fun ρ => by simp only [VR, cvOf]⟩)

theorem shiftOp_ok {P : Program} {op : BinOp} {k k' : IntKind} {a b : Int} {x : AV} (h : shiftOp op k a b = some x) (t : TypeId) (W : World) :
    (binOp op t (.int k a) (.int k' b)).run P W = .ok (cvOf x) W ∧ ∀ ρ, VR ρ x (cvOf x) := by
  unfold shiftOp at h
  split at h
  · cases h
  · rename_i hb
    cases op <;> simp only at h <;> first
      | (cases h; done)
      | (cases h
         exact ⟨by simp [binOp, Op.shift, hb, cvOf, Sem.run_pure], fun ρ => by simp only [VR, cvOf]⟩)

theorem strOp_ok {P : Program} {op : BinOp} {a b : List UInt8} {x : AV} (h : strOp op a b = some x) (t : TypeId) (W : World) :
    (binOp op t (.string ⟨⟨a⟩⟩) (.string ⟨⟨b⟩⟩)).run P W = .ok (cvOf x) W ∧ ∀ ρ, VR ρ x (cvOf x) := by
  have e : ∀ (o : BinOp), o ≠ .shl → o ≠ .shr → binOp o t (.string ⟨⟨a⟩⟩) (.string ⟨⟨b⟩⟩) = Op.stringOp o ⟨⟨a⟩⟩ ⟨⟨b⟩⟩ := by
    intro o _ _; cases o <;> rfl
  cases op <;> simp only [strOp] at h
  case add =>
    split at h
    · rename_i hl
      cases h
      refine ⟨?_, fun ρ => by simp only [VR, cvOf]⟩
      rw [e _ (by simp) (by simp)]
      have := run_string_add_sum (P := P) W ⟨⟨a⟩⟩ ⟨⟨b⟩⟩ (by show a.length + b.length ≤ _; exact hl)
      rw [this]
      simp only [cvOf]
      congr 2
    · cases h
  all_goals first
    | (cases h; done)
    | (cases h
       refine ⟨?_, fun ρ => by simp only [VR, cvOf]⟩
       rw [e _ (by simp) (by simp)]
       simp only [Op.stringOp, bytes_toList, Sem.run_pure, cvOf])

theorem cplxOp_ok {P : Program} {op : BinOp} {a b c d a' b' c' d' : Nat} {x : AV} (h : cplxOp op a b c d = some x) (ha : FR .f64 a a') (hb : FR .f64 b b') (hc : FR .f64 c c') (hd : FR .f64 d d') (t : TypeId) (W : World) :
    ∃ cv n, (binOp op t (.complex .f64 a' b') (.complex .f64 c' d')).run P W = .ok cv { W with drawn := n } ∧ ∀ ρ, VR ρ x cv := by
  have e : ∀ (o : BinOp), o ≠ .shl → o ≠ .shr → binOp o t (.complex .f64 a' b') (.complex .f64 c' d') = Op.complexOp o .f64 a' b' c' d' := by
    intro o _ _; cases o <;> simp [binOp]
  have hconv : ∀ (z : Nat) (V : World), (Op.Complex.conv .f64 z .f64).run P V = .ok z V := fun z V => by simp [Op.Complex.conv, Sem.run_pure]
  cases op <;> simp only [cplxOp] at h <;> try (cases h; done)
  · simp only [Option.bind_eq_bind, Option.bind_eq_some_iff] at h
    obtain ⟨r1, h1, r2, h2, h3⟩ := h
    cases h3
    obtain ⟨s1, n1, q1, f1⟩ := arith_ok (P := P) h1 ha hc W
    obtain ⟨s2, n2, q2, f2⟩ := arith_ok (P := P) h2 hb hd { W with drawn := n1 }
    refine ⟨.complex .f64 s1 s2, n2, ?_, fun ρ => by simp only [VR]; exact ⟨_, _, rfl, f1, f2⟩⟩
    rw [e _ (by simp) (by simp)]
    simp only [Op.complexOp, Sem.run_bind, q1, q2, Result.andThen_ok, Sem.run_pure]
  · simp only [Option.bind_eq_bind, Option.bind_eq_some_iff] at h
    obtain ⟨r1, h1, r2, h2, h3⟩ := h
    cases h3
    obtain ⟨s1, n1, q1, f1⟩ := arith_ok (P := P) h1 ha hc W
    obtain ⟨s2, n2, q2, f2⟩ := arith_ok (P := P) h2 hb hd { W with drawn := n1 }
    refine ⟨.complex .f64 s1 s2, n2, ?_, fun ρ => by simp only [VR]; exact ⟨_, _, rfl, f1, f2⟩⟩
    rw [e _ (by simp) (by simp)]
    simp only [Op.complexOp, Sem.run_bind, q1, q2, Result.andThen_ok, Sem.run_pure]
  · simp only [Option.bind_eq_bind, Option.bind_eq_some_iff] at h
    obtain ⟨r1, h1, r2, h2, r3, h3, r4, h4, r5, h5, r6, h6, h7⟩ := h
    cases h7
    obtain ⟨s1, n1, q1, f1⟩ := arith_ok (P := P) h1 ha hc W
    obtain ⟨s2, n2, q2, f2⟩ := arith_ok (P := P) h2 hb hd { W with drawn := n1 }
    obtain ⟨s5, n5, q5, f5⟩ := arith_ok (P := P) h5 f1 f2 { W with drawn := n2 }
    obtain ⟨s3, n3, q3, f3⟩ := arith_ok (P := P) h3 ha hd { W with drawn := n5 }
    obtain ⟨s4, n4, q4, f4⟩ := arith_ok (P := P) h4 hb hc { W with drawn := n3 }
    obtain ⟨s6, n6, q6, f6⟩ := arith_ok (P := P) h6 f3 f4 { W with drawn := n4 }
    refine ⟨.complex .f64 s5 s6, n6, ?_, fun ρ => by simp only [VR]; exact ⟨_, _, rfl, f5, f6⟩⟩
    rw [e _ (by simp) (by simp)]
    simp only [Op.complexOp, Sem.run_bind, hconv, Result.andThen_ok, BEq.rfl, if_true, Op.Complex.product, Op.Complex.mul, Op.Complex.sub, Op.Complex.add, q1, q2, q3, q4, q5, q6, Sem.run_pure]
  · cases h
    refine ⟨_, W.drawn, ?_, fun ρ => by simp only [VR]; rfl⟩
    rw [e _ (by simp) (by simp)]
    simp [Op.complexOp, Op.Complex.cmp, Op.floatCmp, asBool, Sem.run_pure, FR.order ha hc, FR.order hb hd]
  · cases h
    refine ⟨_, W.drawn, ?_, fun ρ => by simp only [VR]; rfl⟩
    rw [e _ (by simp) (by simp)]
    simp [Op.complexOp, Op.Complex.cmp, Op.floatCmp, asBool, Sem.run_pure, FR.order ha hc, FR.order hb hd]

end Go.Proofs.YtnmignkabcblgaaDoor.E
