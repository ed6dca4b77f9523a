/- Part of a claim: the law's closed calls: what must come at any rate. -/
import Derived.Test.YtpddepehlinfnaaGreatDoorPG1
set_option linter.unusedSimpArgs false
set_option linter.unusedVariables false
namespace Go.Proofs.YtpddepehlinfnaaGreatDoor.B
open Go Go.RowKit Go.Proofs.YtpddepehlinfnaaGreatDoor.E

/-- Is it this? -/
def isIt (r : Option (AV × Heap)) (f : AV → Bool) : Bool :=
  match r with
  | some (v, _) => f v
  | none => false

def isTF (a : Nat) (b : Int) : AV → Bool
  | .tup [.float .f64 x, .int .i64 y] => x == a && y == b
  | _ => false
def isTS (a : List UInt8) (b : Int) : AV → Bool
  | .tup [.str x, .int .i64 y] => x == a && y == b
  | _ => false
def isS (a : List UInt8) : AV → Bool
  | .str x => x == a
  | _ => false

theorem isTF_eq {a : Nat} {b : Int} {v : AV} (h : isTF a b v = true) : v = .tup [.float .f64 a, .int .i64 b] := by
  unfold isTF at h
  split at h
  · simp only [Bool.and_eq_true, beq_iff_eq] at h; rw [h.1, h.2]
  · cases h
theorem isTS_eq {a : List UInt8} {b : Int} {v : AV} (h : isTS a b v = true) : v = .tup [.str a, .int .i64 b] := by
  unfold isTS at h
  split at h
  · simp only [Bool.and_eq_true, beq_iff_eq] at h; rw [h.1, h.2]
  · cases h
theorem isS_eq {a : List UInt8} {v : AV} (h : isS a v = true) : v = .str a := by
  unfold isS at h
  split at h
  · rw [eq_of_beq h]
  · cases h

theorem isIt_eq {r : Option (AV × Heap)} {f : AV → Bool} (h : isIt r f = true) : ∃ v H, r = some (v, H) ∧ f v = true := by
  unfold isIt at h
  split at h
  · exact ⟨_, _, rfl, h⟩
  · cases h

/-- A closed call, by the evaluator. -/
theorem closed {n : Nat} {k : FuncId} {args : List AV} {f : AV → Bool} {r : AV} (h : isIt (evF (GX X0) tabM n k args []) f = true) (hf : ∀ v, f v = true → v = r) (ha : flats args = true) (hr : flat r = true) (H : Heap) :
    SemF Tryz.prog tabM k args H fun v h => v = r ∧ h = H := by
  obtain ⟨v, H', h1, h2⟩ := isIt_eq h
  have e := hf v h2
  subst e
  exact SemF.pure ha (((ev_ok (GX_ok (X0_ok tabM)) n).2 k args [] _ _ h1).mono fun v' h ⟨h1, _⟩ => ⟨by rw [h1]; exact hr, h1⟩) H

set_option maxRecDepth 1000000 in
theorem run_p1 : isIt (evF (GX X0) tabM 4000 42 [.str [45, 48, 120, 49, 46, 56, 112, 45, 49]] []) (isTF 13828302655841107968 0) = true := by kernel_rfl
set_option maxRecDepth 1000000 in
theorem run_p2 : isIt (evF (GX X0) tabM 4000 42 [.str [49]] []) (isTF 0 20) = true := by kernel_rfl
set_option maxRecDepth 1000000 in
theorem run_fx : isIt (evF (GX X0) tabM 4000 44 [.float .f64 4593671619917905920, .int .i64 2] []) (isTS [48, 46, 49, 50] 0) = true := by kernel_rfl
set_option maxRecDepth 1000000 in
theorem run_pl : isIt (evF (GX X0) tabM 4000 40 [.float .f64 1] []) (isS [48, 120, 49, 112, 45, 49, 48, 55, 52]) = true := by kernel_rfl

/-- The closed calls, apart. -/
def parseX (args : List AV) (H : Heap) : Option (AV × Heap) :=
  match args with
  | [.str s] => if s = [45, 48, 120, 49, 46, 56, 112, 45, 49] then some (.tup [.float .f64 13828302655841107968, .int .i64 0], H) else if s = [49] then some (.tup [.float .f64 0, .int .i64 20], H) else none
  | _ => none
def fixedX (args : List AV) (H : Heap) : Option (AV × Heap) :=
  match args with
  | [.float .f64 b, .int .i64 n] => if b = 4593671619917905920 ∧ n = 2 then some (.tup [.str [48, 46, 49, 50], .int .i64 0], H) else none
  | _ => none
def printX (args : List AV) (H : Heap) : Option (AV × Heap) :=
  match args with
  | [.float .f64 b] => if b = 1 then some (.str [48, 120, 49, 112, 45, 49, 48, 55, 52], H) else none
  | _ => none

def X1 (k : FuncId) : Option (List AV → Heap → Option (AV × Heap)) :=
  if k = 42 then some parseX else if k = 44 then some fixedX else if k = 40 then some printX else X0 k

theorem X1_ok : ∀ k f, X1 k = some f → ∀ args H v H', f args H = some (v, H') → SemF Tryz.prog tabM k args H fun v' h => v' = v ∧ h = H' := by
  intro k f h args H v H' hr
  unfold X1 at h
  split at h
  · rename_i hk; subst hk; cases h
    unfold parseX at hr
    split at hr
    · split at hr
      · rename_i hs; subst hs; cases hr
        exact closed run_p1 (fun v h => isTF_eq h) rfl rfl H
      · split at hr
        · rename_i hs; subst hs; cases hr
          exact closed run_p2 (fun v h => isTF_eq h) rfl rfl H
        · cases hr
    · cases hr
  · split at h
    · rename_i hk; subst hk; cases h
      unfold fixedX at hr
      split at hr
      · split at hr
        · rename_i hs; obtain ⟨rfl, rfl⟩ := hs; cases hr
          exact closed run_fx (fun v h => isTS_eq h) rfl rfl H
        · cases hr
      · cases hr
    · split at h
      · rename_i hk; subst hk; cases h
        unfold printX at hr
        split at hr
        · split at hr
          · rename_i hs; subst hs; cases hr
            exact closed run_pl (fun v h => isS_eq h) rfl rfl H
          · cases hr
        · cases hr
      · exact X0_ok tabM k f h args H v H' hr

set_option maxRecDepth 1000000 in
theorem alive_run : okTrue (evF (GX X1) tabM 4000 20 [] []) = true := by kernel_rfl

theorem alive (M : Addr → Option AV) (hM : ∀ a v, tabM a = some v → M a = some v) (H : Heap) : SemF Tryz.prog M 20 [] H fun v h => v = .bool true ∧ h = H := by
  obtain ⟨H', h⟩ := okTrue_eq alive_run
  exact SemF.pure rfl (SemF.weaken hM (((ev_ok (GX_ok X1_ok) 4000).2 20 [] [] _ _ h).mono fun v' h ⟨h1, _⟩ => ⟨by rw [h1]; rfl, h1⟩)) H

end Go.Proofs.YtpddepehlinfnaaGreatDoor.B
