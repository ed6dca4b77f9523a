/- Part of a claim: what the evaluator's program is here: the tables and the library's functions without a body. -/
import Derived.Test.YtnmignkabcblgaaDoorEB
import Derived.Test.YtnmignkabcblgaaDoorChecked
import Derived.Laws.Externs
set_option linter.unusedSimpArgs false
set_option linter.unusedVariables false
namespace Go.Proofs.YtnmignkabcblgaaDoor.B
open Go Go.RowKit Go.Proofs.YtnmignkabcblgaaDoor.E

def bits (k : FloatKind) (i : IntKind) (args : List AV) (H : Heap) : Option (AV × Heap) :=
  match args with
  | [.float k' b] => if k' = k ∧ isNaN k b = false then some (.int i b, H) else none
  | _ => none

def unbits (k : FloatKind) (i : IntKind) (args : List AV) (H : Heap) : Option (AV × Heap) :=
  match args with
  | [.int i' n] => if i' = i then some (.float k n.toNat, H) else none
  | _ => none

theorem ext_sem {M : Addr → Option AV} {k : FuncId} {fn : Func} {e : Array Value → Sem Value} (hf : Tryd.prog.funcs[k]? = some fn) (hname : (fn.name == "runtime.NumGoroutine") = false) (hb : fn.body.isNone = true)
    (hn : Extern.findNext fn = none) (he : Extern.find fn = some e) {args : List AV} {H : Heap} {v : AV} (h : ∀ (ρ : Asg) (W : World) (cs : Array Value), VRs ρ args cs.toList → ∃ cv, (e cs).run Tryd.prog W = .ok cv W ∧ VR ρ v cv) :
    SemF Tryd.prog M k args H fun v' h => v' = v ∧ h = H := by
  intro W0 W ρ cargs _ hR ha
  obtain ⟨cv, h1, h2⟩ := h ρ W cargs ha
  refine .inr ⟨cv, W, ?_, v, H, ρ, ⟨rfl, rfl⟩, Le.refl ρ, h2, hR⟩
  rw [run_callFunc_extern hf hname hb hn he, h1]
  rfl

theorem one_arg {ρ : Asg} {x : AV} {cs : Array Value} (h : VRs ρ [x] cs.toList) : ∃ y, cs = #[y] ∧ VR ρ x y := by
  simp only [VRs] at h
  obtain ⟨y, ys, h1, h2, h3⟩ := h
  subst h3
  refine ⟨y, ?_, h2⟩
  cases cs; simp_all

theorem bits_ok {M : Addr → Option AV} {k : FuncId} {fn : Func} {e : Array Value → Sem Value} {fk : FloatKind} {ik : IntKind} (hf : Tryd.prog.funcs[k]? = some fn) (hname : (fn.name == "runtime.NumGoroutine") = false) (hb : fn.body.isNone = true)
    (hn : Extern.findNext fn = none) (he : Extern.find fn = some e) (hrun : ∀ b W, (e #[.float fk b]).run Tryd.prog W = .ok (.int ik b) W) :
    ∀ args H v H', bits fk ik args H = some (v, H') → SemF Tryd.prog M k args H fun v' h => v' = v ∧ h = H' := by
  intro args H v H' h
  unfold bits at h
  split at h
  · split at h
    · rename_i k' b hc
      obtain ⟨rfl, hc⟩ := hc
      cases h
      refine ext_sem hf hname hb hn he fun ρ W cs hcs => ?_
      obtain ⟨y, rfl, hy⟩ := one_arg hcs
      simp only [VR] at hy
      obtain ⟨b', rfl, hb'⟩ := hy
      rcases hb' with rfl | ⟨hb', _⟩
      · exact ⟨_, hrun _ W, by simp only [VR]⟩
      · rw [hc] at hb'; cases hb'
    · cases h
  · cases h

theorem unbits_ok {M : Addr → Option AV} {k : FuncId} {fn : Func} {e : Array Value → Sem Value} {fk : FloatKind} {ik : IntKind} (hf : Tryd.prog.funcs[k]? = some fn) (hname : (fn.name == "runtime.NumGoroutine") = false) (hb : fn.body.isNone = true)
    (hn : Extern.findNext fn = none) (he : Extern.find fn = some e) (hrun : ∀ n W, (e #[.int ik n]).run Tryd.prog W = .ok (.float fk n.toNat) W) :
    ∀ args H v H', unbits fk ik args H = some (v, H') → SemF Tryd.prog M k args H fun v' h => v' = v ∧ h = H' := by
  intro args H v H' h
  unfold unbits at h
  split at h
  · split at h
    · rename_i i' n hc
      subst hc
      cases h
      refine ext_sem hf hname hb hn he fun ρ W cs hcs => ?_
      obtain ⟨y, rfl, hy⟩ := one_arg hcs
      simp only [VR] at hy
      subst hy
      exact ⟨_, hrun _ W, by simp only [VR]; exact ⟨_, rfl, .inl rfl⟩⟩
    · cases h
  · cases h

/-- The functions without a body. -/
def X0 (k : FuncId) : Option (List AV → Heap → Option (AV × Heap)) :=
  if k = 43 then some (bits .f64 .u64) else if k = 44 then some (bits .f32 .u32) else if k = 59 then some (unbits .f64 .u64) else if k = 62 then some (unbits .f32 .u32) else none

theorem X0_ok (M : Addr → Option AV) : ∀ k f, X0 k = some f → ∀ args H v H', f args H = some (v, H') → SemF Tryd.prog M k args H fun v' h => v' = v ∧ h = H' := by
  intro k f h
  unfold X0 at h
  split at h
  · rename_i hk; subst hk; cases h
    exact bits_ok (fn := Tryd.f43) (e := Extern.MathFloatBits.float64bits) Tryd.func43 (by kernel_rfl) (by kernel_rfl) (by kernel_rfl) (by kernel_rfl) fun _ _ => rfl
  · split at h
    · rename_i hk; subst hk; cases h
      exact bits_ok (fn := Tryd.f44) (e := Extern.MathFloatBits.float32bits) Tryd.func44 (by kernel_rfl) (by kernel_rfl) (by kernel_rfl) (by kernel_rfl) fun _ _ => rfl
    · split at h
      · rename_i hk; subst hk; cases h
        exact unbits_ok (fn := Tryd.f59) (e := Extern.MathFloatBits.float64frombits) Tryd.func59 (by kernel_rfl) (by kernel_rfl) (by kernel_rfl) (by kernel_rfl) fun _ _ => rfl
      · split at h
        · rename_i hk; subst hk; cases h
          exact unbits_ok (fn := Tryd.f62) (e := Extern.MathFloatBits.float32frombits) Tryd.func62 (by kernel_rfl) (by kernel_rfl) (by kernel_rfl) (by kernel_rfl) fun _ _ => rfl
        · cases h

noncomputable def T : Tab := tabOf Tryd.prog
theorem sound : Sound Tryd.prog T := ⟨tabOf_ok _, by kernel_rfl⟩

theorem names : (Tryd.prog.funcs.toList.all fun fn => !(fn.name == "runtime.NumGoroutine")) = true := by kernel_rfl
theorem regs : (Tryd.prog.funcs.toList.zipIdx.all fun p => p.2 == 65 || match p.1.body with | some c => codeB T c | none => true) = true := by kernel_rfl

/-- The functions that the evaluator takes. -/
noncomputable def F (k : FuncId) : Option Func := if k = 65 then none else Tryd.prog.funcs[k]?

theorem F_fn {k : FuncId} {fn : Func} (h : F k = some fn) : Tryd.prog.funcs[k]? = some fn ∧ k ≠ 65 := by
  unfold F at h
  split at h
  · cases h
  · rename_i hk; exact ⟨h, hk⟩

theorem F_name {k : FuncId} {fn : Func} (h : F k = some fn) : (fn.name == "runtime.NumGoroutine") = false := by
  have h1 := List.all_eq_true.1 names fn (by rw [Array.mem_toList_iff]; exact Array.mem_of_getElem? (F_fn h).1)
  rwa [Bool.not_eq_true'] at h1

theorem F_reg {k : FuncId} {fn : Func} {c : Code} (h : F k = some fn) (hb : fn.body = some c) : codeB T c = true := by
  obtain ⟨h1, h2⟩ := F_fn h
  have h3 := List.all_eq_true.1 regs (fn, k) (by rw [List.mem_zipIdx_iff_getElem?, Array.getElem?_toList]; exact h1)
  rw [Bool.or_eq_true] at h3
  rcases h3 with h3 | h3
  · exact absurd (eq_of_beq h3) h2
  · rw [hb] at h3; exact h3

/-- The program, with more contracts for functions proved apart. -/
noncomputable def GX (X : FuncId → Option (List AV → Heap → Option (AV × Heap))) : Prg := { T := T, F := F, X := X }

theorem GX_ok {M : Addr → Option AV} {X : FuncId → Option (List AV → Heap → Option (AV × Heap))} (hX : ∀ k f, X k = some f → ∀ args H v H', f args H = some (v, H') → SemF Tryd.prog M k args H fun v' h => v' = v ∧ h = H') : GOK Tryd.prog (GX X) M := by
  exact GOK.of sound (fun _ _ h => (F_fn h).1) (fun _ _ h => F_name h) (fun _ _ _ h hb => F_reg h hb) hX

theorem SemF.weaken {M M' : Addr → Option AV} (hM : ∀ a v, M a = some v → M' a = some v) {k : FuncId} {args : List AV} {H : Heap} {Q : AV → Heap → Prop} (h : SemF Tryd.prog M k args H Q) : SemF Tryd.prog M' k args H Q :=
  fun W0 W ρ cargs hM' hR ha => h W0 W ρ cargs (fun a v hv => hM' a v (hM a v hv)) hR ha

/-! ### The two tables of the library -/

def u8first : List Int := List.replicate 128 0xf0 ++ List.replicate 66 0xf1 ++ List.replicate 30 0x02 ++ [0x13] ++ List.replicate 12 0x03 ++ [0x23] ++ List.replicate 2 0x03 ++ [0x34] ++ List.replicate 3 0x04 ++ [0x44] ++ List.replicate 11 0xf1
def accept : List Int := [0x80,0xbf,0xa0,0xbf,0x80,0x9f,0x90,0xbf,0x80,0x8f] ++ List.replicate 22 0

def tabM : Addr → Option AV := fun a =>
  if a.spot.isSome then none else if a.block = 1 then (u8first[a.off]?).map fun n => .int .u8 n else if a.block = 2 then (accept[a.off]?).map fun n => .int .u8 n else none

def okTrue : Option (AV × Heap) → Bool
  | some (.bool true, _) => true
  | _ => false

theorem okTrue_eq {r : Option (AV × Heap)} (h : okTrue r = true) : ∃ H', r = some (.bool true, H') := by
  unfold okTrue at h
  split at h
  · exact ⟨_, rfl⟩
  · cases h

set_option maxRecDepth 1000000 in
theorem heads_run : okTrue (evF (GX X0) tabM 2000 22 [] []) = true := by kernel_rfl

theorem heads (M : Addr → Option AV) (hM : ∀ a v, tabM a = some v → M a = some v) (H : Heap) : SemF Tryd.prog M 22 [] H fun v h => v = .bool true ∧ h = H := by
  obtain ⟨H', h⟩ := okTrue_eq heads_run
  exact SemF.pure rfl (SemF.weaken hM (((ev_ok (GX_ok (X0_ok tabM)) 2000).2 22 [] [] _ _ h).mono fun v' h ⟨h1, _⟩ => ⟨by rw [h1]; rfl, h1⟩)) H

end Go.Proofs.YtnmignkabcblgaaDoor.B
