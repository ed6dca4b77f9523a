/- Part of a claim: what loads, stores and appends do to the abstract heap. Nothing of a program stands here. -/
import Derived.Test.YtnmignkabcblgaaDoorE1
set_option linter.unusedSimpArgs false
set_option linter.unusedVariables false
namespace Go.Proofs.YtnmignkabcblgaaDoor.E
open Go Go.RowKit

/-- Cells stored one behind the other. -/
def wst (W : World) (cb off : Nat) : List Value → World
  | [] => W
  | v :: vs => wst (W.setCell ⟨cb, off, none⟩ v) cb (off + 1) vs

theorem heap_setCell (W : World) (cb off : Nat) (v : Value) (k : Nat) : (W.setCell ⟨cb, off, none⟩ v).heap[k]? =
    if k = cb then (W.heap[cb]?).map fun | .cells c elem fr => .cells (c.setIfInBounds off v) elem fr | o => o else W.heap[k]? := by
  simp only [World.setCell, Array.getElem?_modify]
  by_cases h : cb = k
  · subst h; simp; congr 1
  · rw [if_neg h, if_neg (fun e => h e.symm)]

theorem size_setCell (W : World) (a : Addr) (v : Value) : (W.setCell a v).heap.size = W.heap.size := by simp [World.setCell]

theorem wst_size (cb : Nat) : ∀ (vs : List Value) (off : Nat) (W : World), (wst W cb off vs).heap.size = W.heap.size
  | [], _, _ => rfl
  | v :: vs, off, W => by rw [wst, wst_size cb vs, size_setCell]

theorem wst_other (cb : Nat) (k : Nat) (hk : k ≠ cb) : ∀ (vs : List Value) (off : Nat) (W : World), (wst W cb off vs).heap[k]? = W.heap[k]?
  | [], _, _ => rfl
  | v :: vs, off, W => by rw [wst, wst_other cb k hk vs, heap_setCell, if_neg hk]

theorem wst_streams (cb : Nat) : ∀ (vs : List Value) (off : Nat) (W : World), (wst W cb off vs).os = W.os ∧ (wst W cb off vs).tape = W.tape ∧ (wst W cb off vs).output = W.output
  | [], _, _ => ⟨rfl, rfl, rfl⟩
  | v :: vs, off, W => by rw [wst]; exact wst_streams cb vs _ _

theorem wst_cells (cb : Nat) (elem : TypeId) (fr : Nat × Nat) : ∀ (vs : List Value) (off : Nat) (W : World) (cs : Array Value), W.heap[cb]? = some (.cells cs elem fr) →
    ∃ cs', (wst W cb off vs).heap[cb]? = some (.cells cs' elem fr) ∧ cs'.size = cs.size ∧
      ∀ i, cs'[i]? = if off ≤ i ∧ i < off + vs.length ∧ i < cs.size then vs[i - off]? else cs[i]?
  | [], off, W, cs, h => ⟨cs, h, rfl, fun i => by rw [if_neg (by simp; omega)]⟩
  | v :: vs, off, W, cs, h => by
    have h1 : (W.setCell ⟨cb, off, none⟩ v).heap[cb]? = some (.cells (cs.setIfInBounds off v) elem fr) := by rw [heap_setCell, if_pos rfl, h]; rfl
    obtain ⟨cs', q1, q2, q3⟩ := wst_cells cb elem fr vs (off + 1) _ _ h1
    refine ⟨cs', q1, by rw [q2]; simp, fun i => ?_⟩
    rw [q3 i]
    simp only [Array.size_setIfInBounds, List.length_cons]
    by_cases h2 : i = off
    · subst h2
      rw [if_neg (by omega)]
      by_cases h3 : i < cs.size
      · rw [if_pos (by omega)]; simp [h3]
      · rw [if_neg (by omega)]; simp [h3]
    · by_cases h3 : off + 1 ≤ i ∧ i < off + 1 + vs.length ∧ i < cs.size
      · rw [if_pos h3, if_pos (by omega)]
        have : i - off = (i - (off + 1)) + 1 := by omega
        rw [this]; simp
      · rw [if_neg h3, if_neg (by omega)]
        rw [Array.getElem?_setIfInBounds]
        rw [if_neg (by omega)]

theorem run_store1 {P : Program} {W : World} {cb off : Nat} {cs : Array Value} {elem : TypeId} {fr : Nat × Nat} (h : W.heap[cb]? = some (.cells cs elem fr)) (ho : off < cs.size)
    (hf : ¬ (fr.1 ≤ off ∧ off < fr.2)) {v : Value} (h1 : ∀ l, v ≠ .agg l) (h2 : ∀ l, v ≠ .tuple l) : (store ⟨cb, off, none⟩ v).run P W = .ok () (W.setCell ⟨cb, off, none⟩ v) := by
  have hc : W.cell? ⟨cb, off, none⟩ = some cs[off] := by simp [World.cell?, h, ho]
  have hz : W.frozen? ⟨cb, off, none⟩ = false := by
    simp only [World.frozen?, h]
    rw [← Bool.not_eq_true, Bool.and_eq_true, decide_eq_true_eq, decide_eq_true_eq]
    exact hf
  cases v <;> first | exact absurd rfl (h1 _) | exact absurd rfl (h2 _) | simp [store, Sem.run, hc, hz]

theorem addr_add (cb off n : Nat) : (Addr.mk cb off none).add n = ⟨cb, off + n, none⟩ := by
  unfold Addr.add; split <;> simp_all

theorem run_storeCells {P : Program} (cb off : Nat) (elem : TypeId) (fr : Nat × Nat) : ∀ (vs : List Value) (i : Nat) (W : World) (cs : Array Value), W.heap[cb]? = some (.cells cs elem fr) →
    off + i + vs.length ≤ cs.size → (∀ j, j < cs.size → ¬ (fr.1 ≤ j ∧ j < fr.2)) → (∀ v ∈ vs, (∀ l, v ≠ .agg l) ∧ (∀ l, v ≠ .tuple l)) →
    (storeCells ⟨cb, off, none⟩ vs i).run P W = .ok () (wst W cb (off + i) vs)
  | [], i, W, cs, h, _, _, _ => by simp [storeCells, wst, pure]
  | v :: vs, i, W, cs, h, hl, hf, hc => by
    simp only [List.length_cons] at hl
    have h1 : (W.setCell ⟨cb, off + i, none⟩ v).heap[cb]? = some (.cells (cs.setIfInBounds (off + i) v) elem fr) := by rw [heap_setCell, if_pos rfl, h]; rfl
    have hs := run_store1 (P := P) h (off := off + i) (by omega) (hf _ (by omega)) (hc v (by simp)).1 (hc v (by simp)).2
    have ih := run_storeCells (P := P) cb off elem fr vs (i + 1) _ _ h1 (by simp; omega) (by simpa using hf) (fun x hx => hc x (by simp [hx]))
    simp only [storeCells, wst, addr_add]
    rw [Sem.run_bind, hs]
    exact ih

/-- The cells of one block written: the heap that follows. -/
theorem Rel.written {ρ ρ' : Asg} {H : Heap} {W0 W : World} (h : Rel ρ H W0 W) (hρ : Le ρ ρ') {b : Nat} {l : Loc} {e : Nat} (hl : ρ b e = some l) {vs : List Value} {off : Nat} {x : HB}
    (hb : b < H.length) (hdom : ∀ b' e' l', ρ' b' e' = some l' → ρ b' e' = some l' ∨ (b' = b ∧ l'.cb = l.cb))
    (hx : BlkOK ρ' (wst W l.cb off vs) b x) : Rel ρ' (H.set b x) W0 (wst W l.cb off vs) := by
  have hd := h.dom b e l hl
  have hother : ∀ b' e' l', b' ≠ b → ρ b' e' = some l' → (wst W l.cb off vs).heap[l'.cb]? = W.heap[l'.cb]? := fun b' e' l' hne q =>
    wst_other _ _ (fun hc => hne (h.own b' b e' e l' l q hl hc)) _ _ _
  refine ⟨⟨?_, ?_, ?_, ?_, ?_⟩, ?_, ?_, ?_⟩
  · rw [(wst_streams _ _ _ _).1]; exact h.below.os
  · rw [(wst_streams _ _ _ _).2.1]; exact h.below.tape
  · rw [(wst_streams _ _ _ _).2.2]; exact h.below.output
  · rw [wst_size]; exact h.below.size
  · intro k hk; rw [wst_other _ _ (by omega)]; exact h.below.block k hk
  · intro b' e' l' q
    rw [List.length_set, wst_size]
    rcases hdom b' e' l' q with q | ⟨rfl, hc⟩
    · exact h.dom b' e' l' q
    · exact ⟨hb, hc ▸ hd.2.1, hc ▸ hd.2.2⟩
  · intro b1 b2 e1 e2 l1 l2 q1 q2 hc
    rcases hdom _ _ _ q1 with q1 | ⟨rfl, hc1⟩ <;> rcases hdom _ _ _ q2 with q2 | ⟨rfl, hc2⟩
    · exact h.own _ _ _ _ _ _ q1 q2 hc
    · exact h.own _ _ _ _ _ _ q1 hl (hc.trans hc2)
    · exact (h.own _ _ _ _ _ _ q2 hl (hc.symm.trans hc1)).symm
    · rfl
  · intro b' y hy
    rw [List.getElem?_set] at hy
    by_cases hne : b = b'
    · subst hne
      rw [if_pos rfl, if_pos hb] at hy
      cases hy; exact hx
    · rw [if_neg hne] at hy
      have hk := h.blk b' y hy
      have hd' : ∀ e' l', ρ' b' e' = some l' → ρ b' e' = some l' := fun e' l' q => (hdom b' e' l' q).resolve_right fun hh => hne hh.1.symm
      cases y with
      | c cells elem ep sep =>
        obtain ⟨h1, ⟨l2, h2, h3⟩, h4, h5⟩ := hk
        exact ⟨h1, ⟨l2, hρ _ _ _ h2, h3⟩, fun e l q => h4 e l (hd' e l q), fun e l he q => (h5 e l he (hd' e l q)).mono hρ (hother b' e l (fun hh => hne hh.symm) (hd' e l q))⟩
      | it s pos =>
        obtain ⟨⟨l2, h1, h2⟩, h3⟩ := hk
        exact ⟨⟨l2, hρ _ _ _ h1, by rw [hother b' 0 l2 (fun hh => hne hh.symm) h1]; exact h2⟩, fun e l q => h3 e l (hd' e l q)⟩
      | dead => trivial

def setAll (cells : List AV) (off : Nat) : List AV → List AV
  | [] => cells
  | v :: vs => setAll (cells.set off v) (off + 1) vs

theorem setAll_length : ∀ (vs cells : List AV) (off : Nat), (setAll cells off vs).length = cells.length
  | [], _, _ => rfl
  | v :: vs, cells, off => by rw [setAll, setAll_length vs, List.length_set]

theorem setAll_get : ∀ (vs cells : List AV) (off i : Nat), (setAll cells off vs)[i]? = if off ≤ i ∧ i < off + vs.length ∧ i < cells.length then vs[i - off]? else cells[i]?
  | [], cells, off, i => by rw [setAll, if_neg (by simp; omega)]
  | v :: vs, cells, off, i => by
    rw [setAll, setAll_get vs]
    simp only [List.length_set, List.length_cons]
    by_cases h2 : i = off
    · subst h2
      rw [if_neg (by omega)]
      by_cases h3 : i < cells.length
      · rw [if_pos (by omega)]; simp [h3]
      · rw [if_neg (by omega)]; simp [h3]
    · by_cases h3 : off + 1 ≤ i ∧ i < off + 1 + vs.length ∧ i < cells.length
      · rw [if_pos h3, if_pos (by omega)]
        have : i - off = (i - (off + 1)) + 1 := by omega
        rw [this]; simp
      · rw [if_neg h3, if_neg (by omega)]
        rw [List.getElem?_set, if_neg (by omega)]

/-- A store of cells into a block: the older epochs are no longer read. -/
theorem Rel.stores {P : Program} {ρ : Asg} {H : Heap} {W0 W : World} (h : Rel ρ H W0 W) {b off ep sep : Nat} {cells : List AV} {elem : TypeId} (hb : H[b]? = some (.c cells elem ep sep))
    {l : Loc} (hl : ρ b ep = some l) {vs : List AV} {cvs : List Value} (ho : off + vs.length ≤ cells.length) (hv : VRs ρ vs cvs) (hc : vs.all isCell = true) :
    (storeCells ⟨l.cb, off, none⟩ cvs).run P W = .ok () (wst W l.cb off cvs) ∧ Rel ρ (H.set b (.c (setAll cells off vs) elem ep ep)) W0 (wst W l.cb off cvs) := by
  obtain ⟨h1, ⟨l', h2, h3⟩, h4, h5⟩ := h.blk b _ hb
  rw [hl] at h2; cases h2
  obtain ⟨g1, g2, cs, fr, g3, g4, g5, g6⟩ := h5 ep l h1 hl
  have hlen := hv.length
  have hcs : ∀ v ∈ cvs, (∀ l, v ≠ .agg l) ∧ (∀ l, v ≠ .tuple l) := by
    intro v hm
    obtain ⟨i, hi⟩ := List.mem_iff_getElem?.1 hm
    have hil : i < cvs.length := (List.getElem?_eq_some_iff.1 hi).1
    obtain ⟨x, hx⟩ : ∃ x, vs[i]? = some x := ⟨vs[i]'(by omega), by simp⟩
    obtain ⟨v', hv', hr⟩ := hv.get hx
    rw [hi] at hv'; cases hv'
    exact hr.cell (by rw [List.all_eq_true] at hc; exact hc x (List.mem_of_getElem? hx))
  refine ⟨?_, ?_⟩
  · have := run_storeCells (P := P) l.cb off elem fr cvs 0 W cs g3 (by omega) (fun j hj => g5.not j (by omega)) hcs
    simpa using this
  · refine h.written (Le.refl ρ) hl (by have := h.dom b ep l hl; exact this.1) (fun _ _ _ q => .inl q) ?_
    refine ⟨Nat.le_refl _, ⟨l, hl, by rw [setAll_length]; exact h3⟩, h4, fun e l2 he q => ?_⟩
    have hee : e = ep := Nat.le_antisymm (h4 e l2 q) he
    subst hee
    rw [hl] at q; cases q
    obtain ⟨cs', q1, q2, q3⟩ := wst_cells l.cb elem fr cvs off W cs g3
    refine ⟨by rw [setAll_length]; exact g1, g2, cs', fr, q1, q2.trans g4, g5, fun i v hi hv' => ?_⟩
    rw [setAll_get] at hv'
    rw [q3 i]
    by_cases hh : off ≤ i ∧ i < off + vs.length ∧ i < cells.length
    · rw [if_pos hh] at hv'
      rw [if_pos (by omega)]
      exact hv.get hv'
    · rw [if_neg hh] at hv'
      rw [if_neg (by omega)]
      exact g6 i v hi hv'

/-- A cell that is read. -/
theorem Rel.reads {ρ : Asg} {H : Heap} {W0 W : World} (h : Rel ρ H W0 W) {b e off ep sep : Nat} {cells : List AV} {elem : TypeId} (hb : H[b]? = some (.c cells elem ep sep)) (he : sep ≤ e)
    {l : Loc} (hl : ρ b e = some l) (ho : off < l.ln) {v : AV} (hv : cells[off]? = some v) : ∃ cv, W.cell? ⟨l.cb, off, none⟩ = some cv ∧ VR ρ v cv := by
  obtain ⟨h1, _, _, h5⟩ := h.blk b _ hb
  obtain ⟨g1, g2, cs, fr, g3, g4, g5, g6⟩ := h5 e l he hl
  obtain ⟨cv, q1, q2⟩ := g6 off v ho hv
  exact ⟨cv, by simp [World.cell?, g3, q1], q2⟩

theorem Rel.reads_old {ρ : Asg} {H : Heap} {W0 W : World} {M : Addr → Option AV} (h : Rel ρ H W0 W) (hM : MOK M W0) {a : Addr} {v : AV} (hv : M a = some v) :
    ∃ cv, W.cell? a = some cv ∧ VR ρ v cv := by
  obtain ⟨cv, h1, h2⟩ := hM a v hv
  refine ⟨cv, ?_, h2.mono (Le.none ρ)⟩
  have hlt : a.block < W0.heap.size := by
    rcases Nat.lt_or_ge a.block W0.heap.size with hh | hh
    · exact hh
    · simp [World.cell?, Array.getElem?_eq_none hh] at h1
  simp only [World.cell?] at h1 ⊢
  rw [h.below.block _ hlt]; exact h1

/-- An append within the capacity: the block's next epoch. -/
theorem Rel.grows_in {P : Program} {ρ : Asg} {H : Heap} {W0 W : World} (h : Rel ρ H W0 W) {b e n0 ep sep : Nat} {cells : List AV} {elem : TypeId} (hb : H[b]? = some (.c cells elem ep sep)) (he : sep ≤ e)
    {l : Loc} (hl : ρ b e = some l) (hn : n0 ≤ l.ln) {vs : List AV} {cvs : List Value} (ho : n0 + vs.length ≤ l.tot) (hv : VRs ρ vs cvs) (hc : vs.all isCell = true) :
    (storeCells ⟨l.cb, n0, none⟩ cvs).run P W = .ok () (wst W l.cb n0 cvs) ∧
    Le ρ (ρ.put b (ep + 1) ⟨l.cb, l.tot, n0 + vs.length⟩) ∧
    Rel (ρ.put b (ep + 1) ⟨l.cb, l.tot, n0 + vs.length⟩) (H.set b (.c (cells.take n0 ++ vs) elem (ep + 1) (if e = ep ∧ n0 = cells.length then sep else ep + 1))) W0 (wst W l.cb n0 cvs) := by
  obtain ⟨h1, ⟨l', h2, h3⟩, h4, h5⟩ := h.blk b _ hb
  obtain ⟨g1, g2, cs, fr, g3, g4, g5, g6⟩ := h5 e l he hl
  have hlen := hv.length
  have hcs : ∀ v ∈ cvs, (∀ l, v ≠ .agg l) ∧ (∀ l, v ≠ .tuple l) := by
    intro v hm
    obtain ⟨i, hi⟩ := List.mem_iff_getElem?.1 hm
    have hil : i < cvs.length := (List.getElem?_eq_some_iff.1 hi).1
    obtain ⟨x, hx⟩ : ∃ x, vs[i]? = some x := ⟨vs[i]'(by omega), by simp⟩
    obtain ⟨v', hv', hr⟩ := hv.get hx
    rw [hi] at hv'; cases hv'
    exact hr.cell (by rw [List.all_eq_true] at hc; exact hc x (List.mem_of_getElem? hx))
  have hnone : ρ b (ep + 1) = none := by
    cases q : ρ b (ep + 1) with
    | none => rfl
    | some l2 => have := h4 _ _ q; omega
  have hle : Le ρ (ρ.put b (ep + 1) ⟨l.cb, l.tot, n0 + vs.length⟩) := Asg.put_le hnone
  refine ⟨?_, hle, ?_⟩
  · have := run_storeCells (P := P) l.cb n0 elem fr cvs 0 W cs g3 (by omega) (fun j hj => g5.not j (by omega)) hcs
    simpa using this
  · obtain ⟨cs', q1, q2, q3⟩ := wst_cells l.cb elem fr cvs n0 W cs g3
    have hblen : b < H.length := (h.dom b e l hl).1
    refine h.written hle hl hblen (fun b' e' l2 q => ?_) ?_
    · rcases Asg.put_inv q with ⟨rfl, _, rfl⟩ | q
      · exact .inr ⟨rfl, rfl⟩
      · exact .inl q
    · refine ⟨by split <;> omega, ⟨_, Asg.put_same _ _ _ _, ?_⟩, ?_, ?_⟩
      · simp only [List.length_append, List.length_take]; omega
      · intro e2 l2 q
        rcases Asg.put_inv q with ⟨_, rfl, _⟩ | q
        · exact Nat.le_refl _
        · have := h4 e2 l2 q; omega
      · intro e2 l2 he2 q
        rcases Asg.put_inv q with ⟨_, rfl, rfl⟩ | q9
        · refine ⟨?_, ho, cs', fr, q1, q2.trans g4, g5, fun i v hi hv' => ?_⟩
          · simp only [List.length_append, List.length_take]; omega
          · rw [q3 i]
            simp only at hi
            rw [List.getElem?_append] at hv'
            simp only [List.length_take] at hv'
            by_cases hh : i < n0
            · rw [if_pos (by omega), List.getElem?_take, if_pos hh] at hv'
              rw [if_neg (by omega)]
              obtain ⟨cv, w1, w2⟩ := g6 i v (by omega) hv'
              exact ⟨cv, w1, w2.mono hle⟩
            · rw [if_neg (by omega)] at hv'
              rw [if_pos (by omega)]
              have : min n0 cells.length = n0 := by omega
              rw [this] at hv'
              obtain ⟨cv, w1, w2⟩ := hv.get hv'
              exact ⟨cv, w1, w2.mono hle⟩
        · split at he2
          · rename_i hcond
            obtain ⟨rfl, hn0⟩ := hcond
            have hlt : e2 ≤ e := h4 e2 l2 q9
            obtain ⟨k1, k2, cs2, fr2, k3, k4, k5, k6⟩ := h5 e2 l2 he2 q9
            have hk1 : l2.ln ≤ n0 := by omega
            by_cases hcb : l2.cb = l.cb
            · rw [hcb, g3] at k3; cases k3
              refine ⟨?_, k2, cs', fr, hcb ▸ q1, q2.trans k4, k5, fun i v hi hv' => ?_⟩
              · simp only [List.length_append, List.length_take]; omega
              · rw [q3 i, if_neg (by omega)]
                rw [List.getElem?_append, List.length_take, if_pos (by omega), List.getElem?_take, if_pos (by omega)] at hv'
                obtain ⟨cv, w1, w2⟩ := k6 i v hi hv'
                exact ⟨cv, w1, w2.mono hle⟩
            · refine ⟨?_, k2, cs2, fr2, by rw [wst_other _ _ hcb]; exact k3, k4, k5, fun i v hi hv' => ?_⟩
              · simp only [List.length_append, List.length_take]; omega
              · rw [List.getElem?_append, List.length_take, if_pos (by omega), List.getElem?_take, if_pos (by omega)] at hv'
                obtain ⟨cv, w1, w2⟩ := k6 i v hi hv'
                exact ⟨cv, w1, w2.mono hle⟩
          · have := h4 e2 l2 q9; omega

/-- An append beyond the capacity: the block's next epoch lies in a new concrete block. -/
theorem Rel.grows_out {ρ : Asg} {H : Heap} {W0 W : World} (h : Rel ρ H W0 W) {b e n0 ep sep : Nat} {cells : List AV} {elem : TypeId} (hb : H[b]? = some (.c cells elem ep sep)) (he : sep ≤ e)
    {l : Loc} (hl : ρ b e = some l) (hn : n0 ≤ l.ln) {vs : List AV} {cs : Array Value} (elem' : TypeId) (hel : elem' = elem) (hl2 : n0 + vs.length ≤ cs.size) (hcs : VRs ρ (cells.take n0 ++ vs) (cs.toList.take (n0 + vs.length))) :
    Le ρ (ρ.put b (ep + 1) ⟨W.heap.size, cs.size, n0 + vs.length⟩) ∧
    Rel (ρ.put b (ep + 1) ⟨W.heap.size, cs.size, n0 + vs.length⟩) (H.set b (.c (cells.take n0 ++ vs) elem (ep + 1) (if e = ep ∧ n0 = cells.length then sep else ep + 1))) W0
      { W with heap := W.heap.push (.cells cs elem') } := by
  subst hel
  obtain ⟨h1, ⟨l', h2, h3⟩, h4, h5⟩ := h.blk b _ hb
  obtain ⟨g1, _⟩ := h5 e l he hl
  have hnone : ρ b (ep + 1) = none := by
    cases q : ρ b (ep + 1) with
    | none => rfl
    | some l2 => have := h4 _ _ q; omega
  have hle : Le ρ (ρ.put b (ep + 1) ⟨W.heap.size, cs.size, n0 + vs.length⟩) := Asg.put_le hnone
  have hblen : b < H.length := (h.dom b e l hl).1
  refine ⟨hle, ⟨Below.push h.below _, ?_, ?_, ?_⟩⟩
  · intro b' e' l2 q
    rw [List.length_set]
    rcases Asg.put_inv q with ⟨rfl, rfl, rfl⟩ | q
    · have := h.below.size; simp; omega
    · have := h.dom b' e' l2 q; simp; omega
  · intro b1 b2 e1 e2 l1 l2 q1 q2 hcb
    rcases Asg.put_inv q1 with ⟨rfl, rfl, rfl⟩ | q8 <;> rcases Asg.put_inv q2 with ⟨rfl, rfl, rfl⟩ | q9
    · rfl
    · have := (h.dom _ _ _ q9).2.2; simp at hcb; omega
    · have := (h.dom _ _ _ q8).2.2; simp at hcb; omega
    · exact h.own _ _ _ _ _ _ q8 q9 hcb
  · intro b' y hy
    rw [List.getElem?_set] at hy
    by_cases hne : b = b'
    · subst hne
      rw [if_pos rfl, if_pos hblen] at hy
      cases hy
      refine ⟨by split <;> omega, ⟨_, Asg.put_same _ _ _ _, ?_⟩, ?_, ?_⟩
      · simp only [List.length_append, List.length_take]; omega
      · intro e2 l2 q
        rcases Asg.put_inv q with ⟨_, rfl, _⟩ | q
        · exact Nat.le_refl _
        · have := h4 e2 l2 q; omega
      · intro e2 l2 he2 q
        rcases Asg.put_inv q with ⟨_, rfl, rfl⟩ | q9
        · refine ⟨?_, hl2, cs, (0, 0), ?_, rfl, .inl rfl, fun i v hi hv' => ?_⟩
          · simp only [List.length_append, List.length_take]; omega
          · show (W.heap.push _)[W.heap.size]? = _
            simp
          · obtain ⟨cv, w1, w2⟩ := hcs.get hv'
            simp only at hi
            rw [List.getElem?_take, if_pos hi] at w1
            exact ⟨cv, by simpa using w1, w2.mono hle⟩
        · split at he2
          · rename_i hcond
            obtain ⟨rfl, hn0⟩ := hcond
            obtain ⟨k1, k2, cs2, fr2, k3, k4, k5, k6⟩ := h5 e2 l2 he2 q9
            refine ⟨?_, k2, cs2, fr2, by rw [heap_push _ _ _ (h.dom _ _ _ q9).2.2]; exact k3, k4, k5, fun i v hi hv' => ?_⟩
            · simp only [List.length_append, List.length_take]; omega
            · rw [List.getElem?_append, List.length_take, if_pos (by omega), List.getElem?_take, if_pos (by omega)] at hv'
              obtain ⟨cv, w1, w2⟩ := k6 i v hi hv'
              exact ⟨cv, w1, w2.mono hle⟩
          · have := h4 e2 l2 q9; omega
    · rw [if_neg hne] at hy
      refine h.keep_push hle _ hy fun e2 l2 q => ?_
      rcases Asg.put_inv q with ⟨rfl, _, _⟩ | q
      · exact absurd rfl hne
      · exact q

end Go.Proofs.YtnmignkabcblgaaDoor.E
