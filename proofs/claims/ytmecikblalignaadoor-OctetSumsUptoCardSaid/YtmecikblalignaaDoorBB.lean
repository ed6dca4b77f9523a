/- Part of a claim: bytes in cells; a strings.Builder in the heap. Nothing of a program stands here. -/
import Derived.Test.YtmecikblalignaaDoorEC
set_option linter.unusedSimpArgs false
set_option linter.unusedVariables false
namespace Go.Proofs.YtmecikblalignaaDoor.B
open Go Go.RowKit Go.Proofs.YtmecikblalignaaDoor.E

/-- A byte's cell. -/
def u8 (b : UInt8) : AV := .int .u8 b.toNat
abbrev cellsB (l : List UInt8) : List AV := l.map u8

theorem cellsB_cell (l : List UInt8) : (cellsB l).all isCell = true := by
  simp only [List.all_map, List.all_eq_true]
  intro x _; rfl
theorem bytesOf_cells : ∀ l : List UInt8, bytesOf (cellsB l) = some l
  | [] => rfl
  | x :: l => by
    show (bytesOf (cellsB l)).map _ = _
    rw [bytesOf_cells l]
    simp
theorem cellsOf_u8 {b : UInt8} : cellsOf (u8 b) = [u8 b] := of_eq_true (eq_true rfl)
theorem isCell_u8 {b : UInt8} : isCell (u8 b) = true := of_eq_true (eq_true rfl)

theorem set_same {H : Heap} {b : Nat} {x : HB} (h : H[b]? = some x) : H.set b x = H := by
  refine List.ext_getElem? fun i => ?_
  rw [List.getElem?_set]
  split
  · rename_i e; subst e; rw [if_pos (lt_of_get h), h]
  · rfl

/-- A builder that holds bytes: who wrote into it (nobody yet, or itself), its bytes. -/
structure BS (tB tY : TypeId) (H : Heap) (b : Nat) (o : Option Nat) (bs : List UInt8) : Prop where
  at_ : ∃ self v, H[b]? = some (.c [self, v] tB 0 0) ∧ (self = .nilptr ∨ self = .ptr b 0 0) ∧ Rep tY 1 H v o (cellsB bs)
  ne : o ≠ some b

/-- What a builder's method does to the heap. -/
structure BG (tB tY : TypeId) (H H' : Heap) (b : Nat) (o o' : Option Nat) (bs : List UInt8) : Prop where
  bs : BS tB tY H' b o' bs
  fr : Fr (b :: o.toList) H H'
  new : Rep.New H o o'

theorem BG.trans {tB tY : TypeId} {H H' H'' : Heap} {b : Nat} {o o' o'' : Option Nat} {bs bs' : List UInt8} (h : BG tB tY H H' b o o' bs) (k : BG tB tY H' H'' b o' o'' bs') : BG tB tY H H'' b o o'' bs' :=
  ⟨k.bs, h.fr.trans k.fr (by
    intro c hc
    rcases List.mem_cons.1 hc with rfl | hc
    · exact .inl (List.mem_cons_self ..)
    · rcases h.new with e | ⟨x, e, hx⟩
      · exact .inl (List.mem_cons_of_mem _ (e ▸ hc))
      · rw [e] at hc
        simp at hc; subst hc; exact .inr hx), Rep.New.trans h.new k.new h.fr.len⟩

/-- The builder's bytes stored anew. -/
theorem BS.store {tB tY : TypeId} {H H' H'' : Heap} {b : Nat} {o o' : Option Nat} {bs bs' : List UInt8} {s' : AV} (hw : BS tB tY H b o bs) (h1 : Fr [b] H H') (h2 : Fr o.toList H' H'') (hr : Rep tY 1 H'' s' o' (cellsB bs')) (hn : Rep.New H' o o') : BG tB tY H (H''.set b (.c [.ptr b 0 0, s'] tB 0 0)) b o o' bs' := by
  obtain ⟨⟨self, s, hs1, hs2, hs3⟩, hs4⟩ := hw
  have hlt := lt_of_get hs1
  have hne : o' ≠ some b := hn.ne (Nat.lt_of_lt_of_le hlt h1.len) hs4
  refine ⟨⟨⟨.ptr b 0 0, s', ?_, .inr rfl, hr.mono (Fr.set _ _ _) (fun c hc => ?_)⟩, hne⟩, ?_, ?_⟩
  · rw [List.getElem?_set_self (by have := h1.len; have := h2.len; omega)]
  · rintro hm
    rw [List.mem_singleton] at hm; subst hm; exact hne hc
  · exact ((h1.mono (Y := b :: o.toList) (by simp)).trans h2 (fun c hc => .inl (List.mem_cons_of_mem _ hc))).trans (Fr.set _ _ _) (by intro c hc; rw [List.mem_singleton] at hc; subst hc; exact .inl (List.mem_cons_self ..))
  · rcases hn with rfl | ⟨x, rfl, hx⟩
    · exact .inl rfl
    · exact .inr ⟨x, rfl, by have := h1.len; omega⟩

/-- A builder's first two cells. -/
theorem BS.after {tB tY : TypeId} {H H' : Heap} {b : Nat} {o : Option Nat} {bs : List UInt8} (hw : BS tB tY H b o bs) (h : Fr [] H H') : BS tB tY H' b o bs := by
  obtain ⟨⟨self, s, hs1, hs2, hs3⟩, hs4⟩ := hw
  exact ⟨⟨self, s, h.get hs1 (by simp), hs2, hs3.mono h (by simp)⟩, hs4⟩

end Go.Proofs.YtmecikblalignaaDoor.B
