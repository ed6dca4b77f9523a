/- Part of a claim: sums and seals: the law. -/
import Derived.Test.YtmecikblalignaaDoorY3
import Derived.Test.YtmecikblalignaaDoorX5
set_option linter.unusedSimpArgs false
set_option linter.unusedVariables false
namespace Go.Proofs.YtmecikblalignaaDoor.B
open Go Go.RowKit Go.Proofs.YtmecikblalignaaDoor.E

/-- What the law has gathered of the first i parts: all their bytes in one row, and a copy of each. -/
structure Sm (h : Heap) (a : AV) (oa : Option Nat) (l : AV) (ol : Option Nat) (ws : List AV) (bss : List (List UInt8)) (i : Nat) : Prop where
  ra : Rep 5 1 h a oa (cellsB (bss.take i).flatten)
  rl : Rep 23 1 h l ol ws
  len : ws.length = i
  each : ∀ (k : Nat) (x : AV) (bs : List UInt8), ws[k]? = some x → bss[k]? = some bs → ∃ o, Rep 5 1 h x o (cellsB bs) ∧ ∀ b, o = some b → oa ≠ some b ∧ ol ≠ some b
  ne : ∀ b, oa = some b → ol ≠ some b

theorem Sm.step {h h1 h2 h4 : Heap} {a a' l l' r : AV} {oa oa' ol ol' oc : Option Nat} {ws : List AV} {bss : List (List UInt8)} {i : Nat} {bs : List UInt8} (s : Sm h a oa l ol ws bss i) (hi : bss[i]? = some bs)
    (r1 : Rep 5 1 h1 a' oa' (cellsB ((bss.take i).flatten ++ bs))) (f1 : Fr oa.toList h h1) (n1 : Rep.New h oa oa') (m : Made h1 h2 r oc bs)
    (r4 : Rep 23 1 h4 l' ol' (ws ++ [r])) (f4 : Fr ol.toList (h2 ++ [.c [r] 23 0 0]) h4) (n4 : Rep.New (h2 ++ [.c [r] 23 0 0]) ol ol') : Sm h4 a' oa' l' ol' (ws ++ [r]) bss (i + 1) := by
  have f3 : Fr [] h2 (h2 ++ [.c [r] 23 0 0]) := Fr.app _ _
  have L1 := f1.len
  have L2 := m.fr.len
  have L3 := f3.len
  have L3' : (h2 ++ [HB.c [r] 23 0 0]).length = h2.length + 1 := by simp
  rw [L3'] at L3
  have A : ∀ b, oa = some b → b < h.length := fun b hb => s.ra.lt hb
  have A' : ∀ b, oa' = some b → b < h1.length := fun b hb => r1.lt hb
  have Lo : ∀ b, ol = some b → b < h.length := fun b hb => s.rl.lt hb
  have C : ∀ b, oc = some b → h1.length ≤ b ∧ b < h2.length := fun b hb => ⟨by
    rcases m.new with e | ⟨x, e, hx⟩
    · rw [e] at hb; cases hb
    · rw [e] at hb; cases hb; exact hx, m.rep.lt hb⟩
  have NA : ∀ b, oa' = some b → oa = some b ∨ h.length ≤ b := fun b hb => by
    rcases n1 with e | ⟨x, e, hx⟩
    · exact .inl (e ▸ hb)
    · rw [e] at hb; cases hb; exact .inr hx
  have NL : ∀ b, ol' = some b → ol = some b ∨ h2.length + 1 ≤ b := fun b hb => by
    rcases n4 with e | ⟨x, e, hx⟩
    · exact .inl (e ▸ hb)
    · rw [e] at hb; cases hb; exact .inr (by rw [L3'] at hx; exact hx)
  have mem : ∀ {o : Option Nat} {b : Nat}, b ∈ o.toList → o = some b := fun {o b} hb => by simpa using hb
  refine ⟨?_, r4, by simp [s.len], ?_, ?_⟩
  · have e : (bss.take (i + 1)).flatten = (bss.take i).flatten ++ bs := by rw [List.take_add_one, hi]; simp
    rw [e]
    refine ((r1.mono m.fr (by simp)).mono f3 (by simp)).mono f4 fun b hb hm => ?_
    have hm := mem hm
    rcases NA b hb with h1 | h1
    · exact s.ne b h1 hm
    · have := Lo b hm; omega
  · intro k x bs' hx hbs
    rw [List.getElem?_append] at hx
    split at hx
    · rename_i hk
      obtain ⟨o, ro, ho⟩ := s.each k x bs' hx hbs
      have O : ∀ b, o = some b → b < h.length := fun b hb => ro.lt hb
      refine ⟨o, (((ro.mono f1 fun b hb hm => (ho b hb).1 (mem hm)).mono m.fr (by simp)).mono f3 (by simp)).mono f4 fun b hb hm => (ho b hb).2 (mem hm), fun b hb => ⟨fun he => ?_, fun he => ?_⟩⟩
      · rcases NA b he with h1 | h1
        · exact (ho b hb).1 h1
        · have := O b hb; omega
      · rcases NL b he with h1 | h1
        · exact (ho b hb).2 h1
        · have := O b hb; omega
    · rename_i hk
      have hlt := (List.getElem?_eq_some_iff.1 hx).1
      simp only [List.length_singleton] at hlt
      have hk0 : k - ws.length = 0 := by omega
      rw [hk0] at hx
      simp only [List.getElem?_cons_zero, Option.some.injEq] at hx
      subst hx
      have hki : k = i := by have := s.len; omega
      subst hki
      rw [hi] at hbs; cases hbs
      refine ⟨oc, (m.rep.mono f3 (by simp)).mono f4 fun b hb hm => ?_, fun b hb => ⟨fun he => ?_, fun he => ?_⟩⟩
      · have := C b hb; have := Lo b (mem hm); omega
      · have := C b hb; have := A' b he; omega
      · have := C b hb
        rcases NL b he with h1 | h1
        · have := Lo b h1; omega
        · omega
  · intro b hb he
    rcases NL b he with h1 | h1
    · rcases NA b hb with h2 | h2
      · exact s.ne b h2 h1
      · have := Lo b h1; omega
    · have := A' b hb; omega

/-- A row of rows, grown by one. -/
theorem appS {T : Tab} (hT : Ty T) {M : Addr → Option AV} {H : Heap} {v r : AV} {o : Option Nat} {ws : List AV} (h : Rep 23 1 H v o ws) (hw : ws.all isCell = true) (hr : isCell r = true) (room : ws.length ≤ 1000000000) :
    ∃ v' o' H', appendA T M (H ++ [.c [r] 23 0 0]) [22, 22] v (.slice H.length 0 0 1 1 (some 1)) = some (v', H') ∧ Rep 23 1 H' v' o' (ws ++ [r]) ∧ Fr o.toList (H ++ [.c [r] 23 0 0]) H' ∧ Rep.New (H ++ [.c [r] 23 0 0]) o o' := by
  have h1 := h.mono (Fr.app H [.c [r] 23 0 0]) (by simp)
  exact h1.append (t := 22) (t2 := 22) (ts := []) (T := T) (M := M) (new := [r]) (n := 1) hT.ty22 rfl hT.ty22 rfl hT.ty23 rfl (by omega) (by simp) rfl rfl (by simp [sliceCells]) (by simpa using hr) rfl hw (by simp; omega)

end Go.Proofs.YtmecikblalignaaDoor.B
