/- Part of a claim: what a row of records reads as. -/
import Derived.Test.YtpddepehlinfnaaGreatDoorPG2
set_option linter.unusedSimpArgs false
set_option linter.unusedVariables false
namespace Go.Proofs.YtpddepehlinfnaaGreatDoor.B
open Go Go.RowKit Go.Proofs.YtpddepehlinfnaaGreatDoor.E

theorem mapM_some {α β : Type} {f : α → Option β} {F : α → β} : ∀ {l : List α}, (∀ x ∈ l, f x = some (F x)) → l.mapM f = some (l.map F)
  | [], _ => rfl
  | x :: l, h => by
    rw [List.mapM_cons, h x List.mem_cons_self, mapM_some (l := l) fun y hy => h y (List.mem_cons_of_mem _ hy)]
    rfl

theorem mapM_rows {α β : Type} [Inhabited β] {f : Nat → Option β} {g : α → β} (l : List α) (h : ∀ i (hi : i < l.length), f i = some (g l[i])) : (List.range l.length).mapM f = some (l.map g) := by
  rw [mapM_some (F := fun i => if hi : i < l.length then g l[i] else (f i).get!)] 
  · congr 1
    refine List.ext_getElem (by simp) fun i h1 h2 => ?_
    have hi : i < l.length := by simpa using h2
    simp [hi]
  · intro i hi
    have hi' : i < l.length := by simpa using hi
    rw [h i hi', dif_pos hi']

/-- Records of two cells each. -/
theorem pair_at {α β : Type} (c1 c2 : α → β) : ∀ (l : List α) (i : Nat) (hi : i < l.length), ((l.flatMap fun x => [c1 x, c2 x]).drop (i * 2)).take 2 = [c1 l[i], c2 l[i]]
  | x :: l, 0, _ => by simp
  | x :: l, i + 1, hi => by
    rw [show (i + 1) * 2 = i * 2 + 1 + 1 by omega]
    simp only [List.flatMap_cons, List.cons_append, List.nil_append, List.drop_succ_cons]
    rw [pair_at c1 c2 l i (by simpa using hi)]
    simp

end Go.Proofs.YtpddepehlinfnaaGreatDoor.B
