/- Part of a claim: parts of a slice that is read. Nothing of a program stands here. -/
import Derived.Test.YtnmignkabcblgaaDoorE31
set_option linter.unusedSimpArgs false
set_option linter.unusedVariables false
namespace Go.Proofs.YtnmignkabcblgaaDoor.E
open Go Go.RowKit

/-- The length is within the capacity, where that is known. -/
def Capped (v : AV) : Prop := ∀ b e off sz n c, v = .slice b e off sz n (some c) → n ≤ c

theorem Rep.capped {el : TypeId} {sz : Nat} {H : Heap} {v : AV} {o : Option Nat} {cells : List AV} (h : Rep el sz H v o cells) : Capped v := by
  intro b e off z n c hv
  cases h with
  | nil => cases hv
  | own => cases hv
  | empty => cases hv; exact Nat.le_refl _

theorem Sees.cell {M : Addr → Option AV} {H : Heap} {sz : Nat} {v : AV} {cells : List AV} (h : Sees M H sz v cells) : cellsOf v = [v] ∧ isCell v = true := by
  cases h <;> exact ⟨rfl, rfl⟩

/-- The same block. -/
def Within (v v' : AV) : Prop := ∀ b e off s n c, v' = .slice b e off s n c → ∃ e' off' s' n' c', v = .slice b e' off' s' n' c'

theorem Sees.slice {T : Tab} {M : Addr → Option AV} {H : Heap} {v : AV} {cells : List AV} {i j : TI} {t el : TypeId} (h : Sees M H 1 v cells) (hc : Capped v) {lo hi : Nat} (hl : lo ≤ hi) (hh : hi ≤ cells.length) (ht : T t = some i) (hi' : i.und = .slice el) (he : T el = some j) (hj : j.size = 1)
    (lo? hi? : Option AV) (e1 : (lo? = none ∧ lo = 0) ∨ ∃ k, lo? = some (.int k lo)) (e2 : (hi? = none ∧ hi = cells.length) ∨ ∃ k, hi? = some (.int k hi)) : ∃ v', sliceA T H t v lo? hi? none = some v' ∧ Sees M H 1 v' ((cells.take hi).drop lo) ∧ Capped v' ∧ Within v v' := by
  have bnd : ∀ len cap, cells.length = len → len ≤ cap → boundsA len cap lo? hi? none = some (lo, hi, cap) := fun len cap h1 h2 => by
    unfold boundsA
    simp only [bndA, Option.isSome_none, Bool.false_eq_true, false_and, if_false]
    have b2 : bndA hi? len cap = some hi := by
      rcases e2 with ⟨rfl, rfl⟩ | ⟨k, rfl⟩
      · simp only [bndA, h1]
      · simp only [bndA]; rw [if_pos ⟨by omega, by omega⟩]; simp
    have b1 : bndA lo? 0 hi = some lo := by
      rcases e1 with ⟨rfl, rfl⟩ | ⟨k, rfl⟩
      · simp only [bndA]
      · simp only [bndA]; rw [if_pos ⟨by omega, by omega⟩]; simp
    unfold bndA at b1 b2
    rw [b2]; simp only
    rw [b1]
  cases h with
  | nil =>
    have h0 : hi = 0 := by simpa using hh
    have h1 : lo = 0 := by omega
    subst h0 h1
    refine ⟨.nilslice, ?_, .nil, (by intro b e off s n c h; cases h), (by intro b e off s n c h; cases h)⟩
    unfold sliceA
    simp only [ht, hi', he, bnd 0 0 rfl (Nat.le_refl _)]
    simp
  | old a n c _ h1 h2 h3 =>
    refine ⟨.oslice (if c = lo then a else a.add (lo * j.size)) (hi - lo) (c - lo), ?_, .old _ _ _ _ ?_ ?_ (by omega), (by intro b e off s n c h; cases h), (by intro b e off s n c h; cases h)⟩
    · unfold sliceA
      simp only [ht, hi', he, bnd n c (by omega) h3, Option.map_some]
    · simp only [List.length_drop, List.length_take]; omega
    · intro q x hx
      rw [List.getElem?_drop, List.getElem?_take] at hx
      split at hx
      · rename_i hq
        have hql := (List.getElem?_eq_some_iff.1 hx).1
        have := h2 (lo + q) x hx
        rw [if_neg (by omega), hj]
        obtain ⟨b, off, sp⟩ := a
        cases sp with
        | none => rw [addr_add] at this ⊢; rw [addr_add, show off + lo * 1 + q = off + (lo + q) by omega]; exact this
        | some s =>
          by_cases z1 : lo = 0
          · subst z1
            simp only [Nat.zero_mul, Nat.zero_add] at this ⊢
            have e : ({ block := b, off := off, spot := some s } : Addr).add 0 = { block := b, off := off, spot := some s } := by simp [Addr.add]
            rw [e]; exact this
          · by_cases z2 : q = 0
            · subst z2
              simp only [Nat.add_zero, Nat.mul_one] at this ⊢
              have e : ∀ y : Addr, y.add 0 = y := fun y => by unfold Addr.add; cases y with | mk b o s => cases s <;> simp
              rw [e]; exact this
            · simp only [Nat.mul_one]
              unfold Addr.add at this ⊢
              simp_all [Nat.add_assoc]
      · cases hx
  | own b e off n cap cs el' ep sep _ h1 h2 h3 h4 =>
    have hlen : cells.length = n := by rw [h4]; simp only [List.length_take, List.length_drop]; omega
    have hcells : ((cells.take hi).drop lo) = (cs.drop (off + lo)).take ((hi - lo) * 1) := by
      refine List.ext_getElem? fun q => ?_
      rw [List.getElem?_drop, List.getElem?_take, List.getElem?_take, List.getElem?_drop]
      by_cases hq : q < (hi - lo) * 1
      · rw [if_pos (by omega), if_pos hq, h4, List.getElem?_take, if_pos (by omega), List.getElem?_drop, show off + (lo + q) = off + lo + q by omega]
      · rw [if_neg (by omega), if_neg hq]
    cases cap with
    | none =>
      refine ⟨.slice b e (off + lo * 1) 1 (hi - lo) none, ?_, .own b e (off + lo * 1) (hi - lo) none cs el' ep sep _ h1 h2 (by omega) (by rw [hcells]; simp), (by intro b e off s n c h; cases h), (by intro b' e' off' s n c h; cases h; exact ⟨_, _, _, _, _, rfl⟩)⟩
      unfold sliceA
      simp only [ht, hi', he, hj, if_true, bnd n n hlen (Nat.le_refl _), Option.map_some, Option.isSome_none, Bool.false_eq_true, if_false]
    | some c =>
      have hnc := hc b e off 1 n c rfl
      refine ⟨.slice b e (off + lo * 1) 1 (hi - lo) (some (c - lo)), ?_, .own b e (off + lo * 1) (hi - lo) _ cs el' ep sep _ h1 h2 (by omega) (by rw [hcells]; simp), (by intro b e off s n c' h; cases h; omega), (by intro b' e' off' s n c h; cases h; exact ⟨_, _, _, _, _, rfl⟩)⟩
      unfold sliceA
      simp only [ht, hi', he, hj, if_true, bnd n c hlen hnc]
      rw [if_pos (by omega)]

end Go.Proofs.YtnmignkabcblgaaDoor.E
