/- Part of a claim: listed variables read one behind the other. -/
import Derived.Test.YtpddepehlinfnaaGreatDoorW1
import Derived.LaidLaws
set_option linter.unusedSimpArgs false
set_option linter.unusedVariables false
namespace Go.Proofs.YtpddepehlinfnaaGreatDoor.B
open Go Go.RowKit Go.Proofs.YtpddepehlinfnaaGreatDoor.E

theorem laid_append {P : Program} {w : World} : ∀ {l r : List (String × DataW Unit)} {p q : List MemPlace}, DataW.LaidVars P w l p → DataW.LaidVars P w r q → DataW.LaidVars P w (l ++ r) (p ++ q)
  | [], _, p, q, h, hr => by
    have : p = [] := h
    subst this
    exact hr
  | (n, d) :: l, r, p, q, ⟨g, t, cs, fuel, p1, q1, h1, h2, h3, h4, h5, e⟩, hr => by
    subst e
    exact ⟨g, t, cs, fuel, p1, q1 ++ q, h1, h2, h3, h4, laid_append h5 hr, by simp only [List.append_assoc]⟩

end Go.Proofs.YtpddepehlinfnaaGreatDoor.B
