/- Part of a claim: the spare room behind a slice, seen. Nothing of a program stands here. -/
import Derived.Test.YtmecikblalignaaDoorEC
set_option linter.unusedSimpArgs false
set_option linter.unusedVariables false
namespace Go.Proofs.YtmecikblalignaaDoor.E
open Go Go.RowKit

/-- The same places, more of them spoken of. -/
def Grown (ρ ρ' : Asg) : Prop := ∀ b e l, ρ b e = some l → ∃ l', ρ' b e = some l' ∧ l'.cb = l.cb ∧ l'.tot = l.tot ∧ l.ln ≤ l'.ln
theorem Grown.refl (ρ : Asg) : Grown ρ ρ := fun _ _ l h => ⟨l, h, rfl, rfl, Nat.le_refl _⟩
theorem Grown.trans {a b c : Asg} (h : Grown a b) (k : Grown b c) : Grown a c := fun x e l q => by
  obtain ⟨l1, a1, a2, a3, a4⟩ := h x e l q
  obtain ⟨l2, b1, b2, b3, b4⟩ := k x e l1 a1
  exact ⟨l2, b1, b2.trans a2, b3.trans a3, by omega⟩
theorem Le.grown {a b : Asg} (h : Le a b) : Grown a b := fun x e l q => ⟨l, h x e l q, rfl, rfl, Nat.le_refl _⟩

mutual
theorem VR.grown {ρ ρ' : Asg} (h : Grown ρ ρ') : ∀ (x : AV) (v : Value), VR ρ x v → VR ρ' x v
  | .bool _, _, q => by simpa only [VR] using q
  | .int _ _, _, q => by simpa only [VR] using q
  | .float _ _, _, q => by simpa only [VR] using q
  | .cplx _ _ _, _, q => by simpa only [VR] using q
  | .str _, _, q => by simpa only [VR] using q
  | .nilptr, _, q => by simpa only [VR] using q
  | .ptr b e off, v, q => by
      simp only [VR] at q ⊢
      obtain ⟨l, h1, h2, h3⟩ := q
      obtain ⟨l', k1, k2, k3, k4⟩ := h _ _ _ h1
      exact ⟨l', k1, by omega, by rw [k2]; exact h3⟩
  | .optr _, _, q => by simpa only [VR] using q
  | .nilslice, _, q => by simpa only [VR] using q
  | .slice b e off sz len cap, v, q => by
      simp only [VR] at q ⊢
      obtain ⟨l, a, c, h1, h2, h3, h4, h5, h6, h7⟩ := q
      obtain ⟨l', k1, k2, k3, k4⟩ := h _ _ _ h1
      exact ⟨l', a, c, k1, h2, h3, h4, by omega, by omega, by rw [k2]; exact h7⟩
  | .oslice _ _ _, _, q => by simpa only [VR] using q
  | .func _, _, q => by simpa only [VR] using q
  | .nilfunc, _, q => by simpa only [VR] using q
  | .iface t x, v, q => by
      simp only [VR] at q ⊢
      obtain ⟨y, h1, h2⟩ := q
      exact ⟨y, h1, VR.grown h x y h2⟩
  | .nilIface, _, q => by simpa only [VR] using q
  | .agg l, v, q => by
      simp only [VR] at q ⊢
      obtain ⟨vs, h1, h2⟩ := q
      exact ⟨vs, h1, VRs.grown h l _ h2⟩
  | .tup l, v, q => by
      simp only [VR] at q ⊢
      obtain ⟨vs, h1, h2⟩ := q
      exact ⟨vs, h1, VRs.grown h l _ h2⟩
  | .other _, _, q => by simpa only [VR] using q
theorem VRs.grown {ρ ρ' : Asg} (h : Grown ρ ρ') : ∀ (l : List AV) (vs : List Value), VRs ρ l vs → VRs ρ' l vs
  | [], vs, q => by simpa only [VRs] using q
  | x :: xs, vs, q => by
      simp only [VRs] at q ⊢
      obtain ⟨y, ys, h1, h2, h3⟩ := q
      exact ⟨y, ys, h1, VR.grown h x y h2, VRs.grown h xs ys h3⟩
end

mutual
/-- What is seen through more places, of what was seen through fewer. -/
theorem VR.seenAs {ρ ρ' : Asg} (h : Grown ρ ρ') : ∀ (x : AV) (v v' : Value), VR ρ x v → VR ρ' x v' → VR ρ x v'
  | .bool _, _, _, _, q => by simpa only [VR] using q
  | .int _ _, _, _, _, q => by simpa only [VR] using q
  | .float _ _, _, _, _, q => by simpa only [VR] using q
  | .cplx _ _ _, _, _, _, q => by simpa only [VR] using q
  | .str _, _, _, _, q => by simpa only [VR] using q
  | .nilptr, _, _, _, q => by simpa only [VR] using q
  | .ptr b e off, v, v', p, q => by
      simp only [VR] at p q ⊢
      obtain ⟨l, h1, h2, h3⟩ := p
      obtain ⟨l2, g1, g2, g3⟩ := q
      obtain ⟨l', k1, k2, k3, k4⟩ := h _ _ _ h1
      rw [k1] at g1; cases g1
      exact ⟨l, h1, h2, by rw [← k2]; exact g3⟩
  | .optr _, _, _, _, q => by simpa only [VR] using q
  | .nilslice, _, _, _, q => by simpa only [VR] using q
  | .slice b e off sz len cap, v, v', p, q => by
      simp only [VR] at p q ⊢
      obtain ⟨l, a, c, h1, h2, h3, h4, h5, h6, h7⟩ := p
      obtain ⟨l2, a2, c2, g1, g2, g3, g4, g5, g6, g7⟩ := q
      obtain ⟨l', k1, k2, k3, k4⟩ := h _ _ _ h1
      rw [k1] at g1; cases g1
      exact ⟨l, a2, c2, h1, g2, g3, g4, h5, by omega, by rw [← k2]; exact g7⟩
  | .oslice _ _ _, _, _, _, q => by simpa only [VR] using q
  | .func _, _, _, _, q => by simpa only [VR] using q
  | .nilfunc, _, _, _, q => by simpa only [VR] using q
  | .iface t x, v, v', p, q => by
      simp only [VR] at p q ⊢
      obtain ⟨y, h1, h2⟩ := p
      obtain ⟨y', g1, g2⟩ := q
      exact ⟨y', g1, VR.seenAs h x y y' h2 g2⟩
  | .nilIface, _, _, _, q => by simpa only [VR] using q
  | .agg l, v, v', p, q => by
      simp only [VR] at p q ⊢
      obtain ⟨vs, h1, h2⟩ := p
      obtain ⟨vs', g1, g2⟩ := q
      exact ⟨vs', g1, VRs.seenAs h l _ _ h2 g2⟩
  | .tup l, v, v', p, q => by
      simp only [VR] at p q ⊢
      obtain ⟨vs, h1, h2⟩ := p
      obtain ⟨vs', g1, g2⟩ := q
      exact ⟨vs', g1, VRs.seenAs h l _ _ h2 g2⟩
  | .other _, _, _, _, q => by simpa only [VR] using q
theorem VRs.seenAs {ρ ρ' : Asg} (h : Grown ρ ρ') : ∀ (l : List AV) (vs vs' : List Value), VRs ρ l vs → VRs ρ' l vs' → VRs ρ l vs'
  | [], vs, vs', p, q => by simpa only [VRs] using q
  | x :: xs, vs, vs', p, q => by
      simp only [VRs] at p q ⊢
      obtain ⟨y, ys, h1, h2, h3⟩ := p
      obtain ⟨y', ys', g1, g2, g3⟩ := q
      exact ⟨y', ys', g1, VR.seenAs h x y y' h2 g2, VRs.seenAs h xs ys ys' h3 g3⟩
end

theorem LocOK.grown {ρ ρ' : Asg} (h : Grown ρ ρ') {W : World} {cells : List AV} {el : TypeId} {l : Loc} (q : LocOK ρ W cells el l) : LocOK ρ' W cells el l := by
  obtain ⟨h1, h2, cs, fr, h3, h4, h5, h6⟩ := q
  exact ⟨h1, h2, cs, fr, h3, h4, h5, fun i v hi hv => let ⟨cv, q1, q2⟩ := h6 i v hi hv; ⟨cv, q1, q2.grown h⟩⟩

/-- THE SPARE ROOM BEHIND A SLICE, SEEN: its capacity is some c, and the cells up to it hold something. -/
theorem Rel.spare {ρ : Asg} {H : Heap} {W0 W : World} (h : Rel ρ H W0 W) {b ep sz n : Nat} {cells : List AV} {el : TypeId} {sep : Nat} {cv : Value} (hb : H[b]? = some (.c cells el ep sep)) (hcl : cells.length = n * sz)
    (hn : 0 < n) (hv : VR ρ (.slice b ep 0 sz n none) cv) : ∃ (c : Nat) (xs : List AV) (ρ2 : Asg), n ≤ c ∧ n * sz + xs.length = c * sz ∧ Grown ρ ρ2 ∧ (∀ b' e, b' ≠ b → ρ2 b' e = ρ b' e) ∧
      Rel ρ2 (H.set b (.c (cells ++ xs) el ep sep)) W0 W ∧ VR ρ2 (.slice b ep 0 sz n (some c)) cv := by
  simp only [VR] at hv
  obtain ⟨l, a, c, v1, v2, _, v4, v5, v6, v7⟩ := hv
  have hbl : b < H.length := (List.getElem?_eq_some_iff.1 hb).1
  obtain ⟨k1, ⟨l0, k2, k3⟩, k4, k5⟩ := h.blk b _ hb
  rw [v1] at k2; cases k2
  have hnc : n * sz ≤ c * sz := Nat.mul_le_mul_right _ v4
  obtain ⟨m1, m2, cs, fr, m3, m4, m5, m6⟩ := k5 ep l k1 v1
  have hput : ∀ b' e', b' ≠ b → ρ.put b ep ⟨l.cb, l.tot, c * sz⟩ b' e' = ρ b' e' := fun b' e' hne => by unfold Asg.put; rw [if_neg (fun hh => hne hh.1)]
  have hg : Grown ρ (ρ.put b ep ⟨l.cb, l.tot, c * sz⟩) := fun b' e' l' q => by
    by_cases hh : b' = b ∧ e' = ep
    · obtain ⟨rfl, rfl⟩ := hh
      rw [v1] at q; cases q
      exact ⟨_, Asg.put_same _ _ _ _, rfl, rfl, by simp only; omega⟩
    · exact ⟨l', by unfold Asg.put; rw [if_neg hh]; exact q, rfl, rfl, Nat.le_refl _⟩
  have hxl : (((cs.toList.take (c * sz)).drop (n * sz)).map AV.other).length = c * sz - n * sz := by
    simp only [List.length_map, List.length_drop, List.length_take, Array.length_toList]; omega
  refine ⟨c, ((cs.toList.take (c * sz)).drop (n * sz)).map AV.other, ρ.put b ep ⟨l.cb, l.tot, c * sz⟩, v4, by rw [hxl]; omega, hg, hput, ⟨h.below, ?_, ?_, ?_⟩, ?_⟩
  · intro b' e' l' q
    rw [List.length_set]
    rcases Asg.put_inv q with ⟨rfl, rfl, rfl⟩ | p
    · have := h.dom _ _ _ v1
      exact this
    · exact h.dom _ _ _ p
  · intro b1 b2 e1 e2 l1 l2 q1 q2 hc
    rcases Asg.put_inv q1 with ⟨e1, _, e3⟩ | p1 <;> rcases Asg.put_inv q2 with ⟨g1, _, g3⟩ | p2
    · rw [e1, g1]
    · rw [e3] at hc; rw [e1]; exact h.own _ _ _ _ _ _ v1 p2 hc
    · rw [g3] at hc; rw [g1]; exact h.own _ _ _ _ _ _ p1 v1 hc
    · exact h.own _ _ _ _ _ _ p1 p2 hc
  · intro b' y hy
    rw [List.getElem?_set] at hy
    by_cases hne : b = b'
    · subst hne
      rw [if_pos rfl, if_pos hbl] at hy
      cases hy
      refine ⟨k1, ⟨_, Asg.put_same _ _ _ _, ?_⟩, ?_, ?_⟩
      · simp only [List.length_append, hxl, hcl]; omega
      · intro e l' q
        rcases Asg.put_inv q with ⟨_, rfl, rfl⟩ | q
        · exact Nat.le_refl _
        · exact k4 _ _ q
      · intro e l' he q
        by_cases hee : e = ep
        · subst hee
          rw [Asg.put_same] at q; cases q
          refine ⟨by simp only [List.length_append, hxl, hcl]; omega, by simp only; omega, cs, fr, m3, m4, m5, ?_⟩
          intro i v hi hv
          simp only at hi
          rw [List.getElem?_append] at hv
          split at hv
          · rename_i hlt
            obtain ⟨cv, q1, q2⟩ := m6 i v (by omega) hv
            exact ⟨cv, q1, q2.grown hg⟩
          · rename_i hge
            rw [List.getElem?_map, List.getElem?_drop, List.getElem?_take, hcl, Option.map_eq_some_iff] at hv
            obtain ⟨w, hw, rfl⟩ := hv
            rw [show n * sz + (i - n * sz) = i by omega, if_pos hi] at hw
            exact ⟨w, by simpa using hw, by simp only [VR]⟩
        · have q' : ρ b e = some l' := by
            rcases Asg.put_inv q with ⟨_, rfl, _⟩ | q
            · exact absurd rfl hee
            · exact q
          obtain ⟨p1, p2, ds, fs, p3, p4, p5, p6⟩ := k5 e l' he q'
          refine ⟨by simp only [List.length_append]; omega, p2, ds, fs, p3, p4, p5, ?_⟩
          intro i v hi hv
          rw [List.getElem?_append_left (by omega)] at hv
          obtain ⟨cv, q1, q2⟩ := p6 i v hi hv
          exact ⟨cv, q1, q2.grown hg⟩
    · rw [if_neg hne] at hy
      have hk := h.blk b' y hy
      have hne' : b' ≠ b := fun e => hne e.symm
      cases y with
      | c cells el ep sep =>
        obtain ⟨h1, ⟨l2, h2, h3⟩, h4, h5⟩ := hk
        exact ⟨h1, ⟨l2, by rw [hput _ _ hne']; exact h2, h3⟩, fun e l q => h4 e l (by rwa [hput _ _ hne'] at q), fun e l he q => (h5 e l he (by rwa [hput _ _ hne'] at q)).grown hg⟩
      | it s pos =>
        obtain ⟨⟨l2, h1, h2⟩, h3⟩ := hk
        exact ⟨⟨l2, by rw [hput _ _ hne']; exact h1, h2⟩, fun e l q => h3 e l (by rwa [hput _ _ hne'] at q)⟩
      | dead => trivial
  · simp only [VR]
    refine ⟨_, a, c, Asg.put_same _ _ _ _, v2, fun c0 e => by cases e; rfl, v4, by simp only; omega, by simp only; omega, ?_⟩
    rcases v7 with ⟨e1, e2⟩ | e
    · omega
    · exact .inr e

/-- The cells of a block that never grew. -/
theorem Rel.cells0 {ρ : Asg} {H : Heap} {W0 W : World} (h : Rel ρ H W0 W) {B : Nat} {cells : List AV} {el : TypeId} (hB : H[B]? = some (.c cells el 0 0)) :
    ∃ (l : Loc) (cs : Array Value) (fr : Nat × Nat), ρ B 0 = some l ∧ W.heap[l.cb]? = some (.cells cs el fr) ∧ ∀ (i : Nat) (v : AV), cells[i]? = some v → ∃ cv : Value, cs[i]? = some cv ∧ VR ρ v cv := by
  obtain ⟨k1, ⟨l, k2, k3⟩, k4, k5⟩ := h.blk B _ hB
  obtain ⟨m1, m2, cs, fr, m3, m4, m5, m6⟩ := k5 0 l (Nat.le_refl _) k2
  exact ⟨l, cs, fr, k2, m3, fun i v hv => m6 i v (by have := (List.getElem?_eq_some_iff.1 hv).1; omega) hv⟩

/-- Its cells, said in other words. -/
theorem Rel.retype {ρ : Asg} {H : Heap} {W0 W : World} (h : Rel ρ H W0 W) {B : Nat} {cells cells' : List AV} {el : TypeId} (hB : H[B]? = some (.c cells el 0 0)) (hl : cells'.length = cells.length)
    {l : Loc} {cs : Array Value} {fr : Nat × Nat} (q1 : ρ B 0 = some l) (q2 : W.heap[l.cb]? = some (.cells cs el fr)) (q3 : ∀ (i : Nat) (v : AV), cells'[i]? = some v → ∃ cv : Value, cs[i]? = some cv ∧ VR ρ v cv) :
    Rel ρ (H.set B (.c cells' el 0 0)) W0 W := by
  have hbl : B < H.length := (List.getElem?_eq_some_iff.1 hB).1
  refine ⟨h.below, fun b e l q => by rw [List.length_set]; exact h.dom b e l q, h.own, fun b x hx => ?_⟩
  rw [List.getElem?_set] at hx
  by_cases hne : B = b
  · subst hne
    rw [if_pos rfl, if_pos hbl] at hx
    cases hx
    obtain ⟨k1, ⟨l0, k2, k3⟩, k4, k5⟩ := h.blk B _ hB
    refine ⟨k1, ⟨l0, k2, by omega⟩, k4, fun e l1 he q => ?_⟩
    have he0 : e = 0 := by have := k4 e l1 q; omega
    subst he0
    rw [q1] at q; cases q
    obtain ⟨m1, m2, ds, fs, m3, m4, m5, m6⟩ := k5 0 l he q1
    rw [q2] at m3; cases m3
    exact ⟨by omega, m2, cs, fr, q2, m4, m5, fun i v _ hv => q3 i v hv⟩
  · rw [if_neg hne] at hx
    exact h.blk b x hx

/-- A CALL THAT SEES THE SPARE ROOM of two slices that lie side by side in a block: what it leaves of them is not spoken of any more. -/
theorem SemF.spare2 {P : Program} {M : Addr → Option AV} {k : FuncId} {args : List AV} {H : Heap} {Q : AV → Prop} {B ba bb ea eb na nb sa sb : Nat} {ca cb : List AV} {el elB : TypeId}
    (hB : H[B]? = some (.c [.slice ba ea 0 1 na none, .slice bb eb 0 1 nb none] elB 0 0)) (ha : H[ba]? = some (.c ca el ea sa)) (hb : H[bb]? = some (.c cb el eb sb))
    (hca : ca.length = na) (hcb : cb.length = nb) (hna : 0 < na) (hnb : 0 < nb) (hne : ba ≠ bb) (h1 : B ≠ ba) (h2 : B ≠ bb)
    (h : ∀ (c1 c2 : Nat) (xa xb : List AV), na + xa.length = c1 → nb + xb.length = c2 →
      SemF P M k args (((H.set ba (.c (ca ++ xa) el ea sa)).set bb (.c (cb ++ xb) el eb sb)).set B (.c [.slice ba ea 0 1 na (some c1), .slice bb eb 0 1 nb (some c2)] elB 0 0))
        fun v h => flat v = true ∧ Q v ∧ ∀ b x, H[b]? = some x → b ≠ B → b ≠ ba → b ≠ bb → h[b]? = some x) :
    SemF P M k args H fun v h => Q v ∧ h = ((H.set ba .dead).set bb .dead).set B .dead := by
  intro W0 W ρ cargs hM hR hv
  obtain ⟨l, cs, fr, q1, q2, q3⟩ := hR.cells0 hB
  obtain ⟨cv1, i1, i2⟩ := q3 0 _ rfl
  obtain ⟨cv2, j1, j2⟩ := q3 1 _ rfl
  obtain ⟨c1, xa, ρ2, a1, a2, a3, a4, a5, a6⟩ := hR.spare ha (by omega) hna i2
  have hb' : (H.set ba (.c (ca ++ xa) el ea sa))[bb]? = some (.c cb el eb sb) := by rw [List.getElem?_set, if_neg hne]; exact hb
  obtain ⟨c2, xb, ρ3, b1, b2, b3, b4, b5, b6⟩ := a5.spare hb' (by omega) hnb (j2.grown a3)
  have hB' : ((H.set ba (.c (ca ++ xa) el ea sa)).set bb (.c (cb ++ xb) el eb sb))[B]? = some (.c [.slice ba ea 0 1 na none, .slice bb eb 0 1 nb none] elB 0 0) := by
    rw [List.getElem?_set, if_neg (fun e => h2 e.symm), List.getElem?_set, if_neg (fun e => h1 e.symm)]; exact hB
  have r3 := b5.retype hB' (cells' := [.slice ba ea 0 1 na (some c1), .slice bb eb 0 1 nb (some c2)]) rfl (l := l) (cs := cs) (fr := fr) (by rw [b4 _ _ h2, a4 _ _ h1]; exact q1) q2 (fun i v hv => by
    match i, hv with
    | 0, hv => cases hv; exact ⟨cv1, i1, a6.grown b3⟩
    | 1, hv => cases hv; exact ⟨cv2, j1, b6⟩
    | i + 2, hv => simp at hv)
  have g13 : Grown ρ ρ3 := a3.trans b3
  refine (h c1 c2 xa xb (by omega) (by omega) W0 W ρ3 cargs hM r3 (VRs.grown g13 _ _ hv)).mono ?_
  intro cv W' ⟨v, H', ρ4, ⟨f1, f2, f3⟩, f4, f5, f6⟩
  have g : Grown ρ ρ4 := g13.trans f4.grown
  refine ⟨v, _, ρ, ⟨f2, rfl⟩, Le.refl ρ, flat_VR v cv f1 f5, f6.below, ?_, hR.own, ?_⟩
  · intro b e l q
    have h3 := hR.dom b e l q
    obtain ⟨l', p1, p2, _, _⟩ := g b e l q
    have h4 := f6.dom _ _ _ p1
    simp only [List.length_set]
    exact ⟨h3.1, h3.2.1, by omega⟩
  · intro b x hx
    by_cases eB : B = b
    · subst eB
      rw [List.getElem?_set, if_pos rfl] at hx
      split at hx
      · cases hx; trivial
      · cases hx
    rw [List.getElem?_set, if_neg eB] at hx
    by_cases e2 : bb = b
    · subst e2
      rw [List.getElem?_set, if_pos rfl] at hx
      split at hx
      · cases hx; trivial
      · cases hx
    rw [List.getElem?_set, if_neg e2] at hx
    by_cases e1 : ba = b
    · subst e1
      rw [List.getElem?_set, if_pos rfl] at hx
      split at hx
      · cases hx; trivial
      · cases hx
    rw [List.getElem?_set, if_neg e1] at hx
    have hk := f6.blk b x (f3 b x hx (fun e => eB e.symm) (fun e => e1 e.symm) (fun e => e2 e.symm))
    have hk0 := hR.blk b x hx
    cases x with
    | c cells el ep sep =>
      obtain ⟨_, _, _, k5⟩ := hk
      obtain ⟨o1, o2, o3, o4⟩ := hk0
      refine ⟨o1, o2, o3, fun e l he q => ?_⟩
      obtain ⟨l', p1, p2, p3, p4⟩ := g b e l q
      obtain ⟨m1, m2, ds, fs, m3, m4, m5, m6⟩ := k5 e l' he p1
      obtain ⟨n1, n2, es, gs, n3, n4, n5, n6⟩ := o4 e l he q
      refine ⟨n1, n2, ds, fs, p2 ▸ m3, by omega, by rw [← p3]; exact m5, fun i v hi hv => ?_⟩
      obtain ⟨cv', u1, u2⟩ := m6 i v (by omega) hv
      obtain ⟨cv0, w1, w2⟩ := n6 i v hi hv
      exact ⟨cv', u1, VR.seenAs g v cv0 cv' w2 u2⟩
    | it s pos =>
      obtain ⟨⟨l', k1, k2⟩, _⟩ := hk
      obtain ⟨⟨l0, o1, o2⟩, o3⟩ := hk0
      obtain ⟨l2, p1, p2, _, _⟩ := g b 0 l0 o1
      rw [k1] at p1; cases p1
      exact ⟨⟨l0, o1, by rw [← p2]; exact k2⟩, o3⟩
    | dead => trivial

end Go.Proofs.YtmecikblalignaaDoor.E
