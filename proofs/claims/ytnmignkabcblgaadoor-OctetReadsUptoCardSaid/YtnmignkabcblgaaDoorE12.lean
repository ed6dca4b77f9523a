/- Part of a claim: the operations' soundness, eighth part: composite literals, make, append, copy, range. Nothing of a program stands here. -/
import Derived.Test.YtnmignkabcblgaaDoorE11
import Derived.Laws.Tables
set_option linter.unusedSimpArgs false
set_option linter.unusedVariables false
namespace Go.Proofs.YtnmignkabcblgaaDoor.E
open Go Go.RowKit

theorem set_fold {ρ : Asg} : ∀ (xs : List AV) (l : List Value) (cells : List AV) (a : Array Value) (off k : Nat), VRs ρ cells a.toList → VRs ρ xs l →
    VRs ρ (setAll cells (off + k) xs) ((l.zipIdx k).foldl (fun cs p => cs.setIfInBounds (off + p.2) p.1) a).toList
  | [], l, cells, a, off, k, h, hl => by
    simp only [VRs] at hl; subst hl
    simpa [setAll] using h
  | x :: xs, l, cells, a, off, k, h, hl => by
    simp only [VRs] at hl
    obtain ⟨v, vs, rfl, h1, h2⟩ := hl
    simp only [List.zipIdx_cons, List.foldl_cons, setAll]
    have h3 : VRs ρ (cells.set (off + k) x) (a.setIfInBounds (off + k) v).toList := by
      rw [Array.toList_setIfInBounds]; exact h.set _ h1
    exact set_fold xs vs _ _ off (k + 1) h3 h2

/-- The parts of a literal, related one by one. -/
def VPs (ρ : Asg) : List (Nat × AV) → List (Nat × Value) → Prop
  | [], l => l = []
  | p :: ps, l => ∃ q qs, l = q :: qs ∧ q.1 = p.1 ∧ VR ρ p.2 q.2 ∧ VPs ρ ps qs

theorem fill_ok {ρ : Asg} {place : Nat → Option (Nat × Nat)} : ∀ (parts : List (Nat × AV)) (qs : List (Nat × Value)) (cells r : List AV) (a : Array Value), fillA place cells parts = some r → VPs ρ parts qs → VRs ρ cells a.toList →
    ∃ b, Instr.fill place a qs = some b ∧ VRs ρ r b.toList
  | [], qs, cells, r, a, h, hp, hc => by
    simp only [VPs] at hp; subst hp
    simp only [fillA, Option.some.injEq] at h; subst h
    exact ⟨a, rfl, hc⟩
  | (i, x) :: ps, qs, cells, r, a, h, hp, hc => by
    simp only [VPs] at hp
    obtain ⟨⟨i', v⟩, qs', rfl, h1, h2, h3⟩ := hp
    simp only at h1 h2
    subst h1
    simp only [fillA] at h
    split at h
    · cases h
    · rename_i off size hpl
      split at h
      · rename_i hcond
        obtain ⟨hs, hle, hcell⟩ := hcond
        have hv := h2.cells hcell
        have hvl := hv.length
        simp only [Array.length_toList] at hvl
        have hal := hc.length
        simp only [Array.length_toList] at hal
        have h4 := set_fold (ρ := ρ) (cellsOf x) v.cells.toList cells a off 0 hc hv
        rw [Nat.add_zero] at h4
        obtain ⟨b, g1, g2⟩ := fill_ok ps qs' _ r _ h h3 h4
        refine ⟨b, ?_, g2⟩
        simp only [Instr.fill, hpl]
        rw [if_neg (by simp; omega)]
        rw [← g1]
        congr 1
        rw [← Array.foldl_toList]
        simp
      · cases h

theorem VPs.mk {ρ : Asg} {env : List AV} {a : Act} (q : RelEnv ρ env a) : ∀ (l : List (Nat × Operand)), VPs ρ (l.map fun p => (p.1, opv env p.2)) (l.map fun p => (p.1, a.eval p.2))
  | [] => by simp only [List.map_nil, VPs]
  | p :: l => by simp only [List.map_cons, VPs]; exact ⟨_, _, rfl, rfl, q.eval p.2, VPs.mk q l⟩

theorem mapM_info {P : Program} {T : Tab} (hT : TOK P T) : ∀ (fs : List Field) (places : List (Nat × Nat)), (fs.mapM fun f => (T f.type).map fun j => (f.offset, j.size)) = some places →
    (fs.mapM fun f => (P.info? f.type).map fun i => (f.offset, i.size)) = some places
  | [], places, h => by simpa using h
  | f :: fs, places, h => by
    rw [List.mapM_cons] at h ⊢
    simp only [Option.bind_eq_bind, Option.bind_eq_some_iff, Option.map_eq_some_iff] at h ⊢
    obtain ⟨p, ⟨j, hj, rfl⟩, ps, hps, h⟩ := h
    obtain ⟨inf, h1, h2, _⟩ := hT.info hj
    exact ⟨_, ⟨inf, h1, by rw [h2]⟩, ps, mapM_info hT fs ps hps, h⟩

theorem zero_cells {ρ : Asg} (z : Value) : VRs ρ (cellsOf (absC z)) z.cells.toList := by
  have h := VR_absC ρ z
  unfold absC at h ⊢
  split
  · exact VRs_absC0 ρ _
  · rename_i cs
    show VRs ρ [_] [_]
    simp only [VRs]
    exact ⟨_, _, rfl, by simpa using h, rfl⟩
  · rename_i h1 h2
    have hv : z.cells = #[z] := by cases z <;> first | exact absurd rfl (h1 _) | rfl
    rw [hv]
    have hc : cellsOf (absC0 z) = [absC0 z] := by
      unfold absC0
      split <;> rfl
    rw [hc]
    simp only [VRs]
    exact ⟨_, _, rfl, VR_absC0 ρ z, rfl⟩

theorem build_ok {P : Program} {T : Tab} (hT : TOK P T) {ρ : Asg} {H : Heap} {W0 W : World} (hR : Rel ρ H W0 W) {t : TypeId} {ps : List (Nat × AV)} {qs : List (Nat × Value)} {z : AV} (h : buildA T t ps = some z) (hp : VPs ρ ps qs) :
    Yields P (Instr.build t qs.toArray) ρ W0 W z H := by
  unfold buildA at h
  split at h
  · cases h
  · rename_i i ht
    have hz := zero_cells (ρ := ρ) i.zero
    obtain ⟨inf, i1, i2, i3, i4⟩ := hT.info ht
    have hu := hT.und ht
    have fin : ∀ b : Array Value, P.built t qs = some b → (Instr.build t qs.toArray).run P W = .ok (.agg b) W := fun b hb => run_build W t qs.toArray b (by simpa using hb)
    split at h
    · rename_i fs hund
      rw [hund] at hu
      split at h
      · cases h
      · rename_i places hpl
        simp only [Option.map_eq_some_iff] at h
        obtain ⟨r, hr, rfl⟩ := h
        obtain ⟨b, g1, g2⟩ := fill_ok ps qs _ r i.zero.cells hr hp hz
        refine Yields.same (fin b ?_) (by simp only [VR]; exact ⟨b, rfl, g2⟩) hR
        unfold Program.built
        simp only [i1, hu, i4, mapM_info hT _ _ hpl]
        simpa using g1
    · rename_i n e hund
      rw [hund] at hu
      split at h
      · cases h
      · rename_i j hj
        obtain ⟨jnf, j1, j2, j3, j4⟩ := hT.info hj
        simp only [Option.map_eq_some_iff] at h
        obtain ⟨r, hr, rfl⟩ := h
        obtain ⟨b, g1, g2⟩ := fill_ok ps qs _ r i.zero.cells hr hp hz
        refine Yields.same (fin b ?_) (by simp only [VR]; exact ⟨b, rfl, g2⟩) hR
        unfold Program.built
        simp only [i1, hu, i4, j1, j2]
        exact g1
    · cases h

theorem zeros_ok {ρ : Asg} {zs : List AV} {z : Array Value} (h : VRs ρ zs z.toList) (hne : zs.length ≠ 0) (n : Nat) : VRs ρ (zerosA zs n) ((Array.range (n * z.size)).map (z[· % z.size]!)).toList := by
  have hl := h.length
  simp only [Array.length_toList] at hl
  have hzl : (zerosA zs n).length = n * zs.length := by
    unfold zerosA
    split
    · simp
    · simp
  refine VRs.mk (by rw [hzl]; simp [hl]) fun i x v hx hv => ?_
  simp only [Array.toList_map, Array.toList_range, List.getElem?_map, Option.map_eq_some_iff] at hv
  obtain ⟨i', hi', rfl⟩ := hv
  have hi := List.getElem?_eq_some_iff.1 hi'
  obtain ⟨hlt, hi⟩ := hi
  simp only [List.getElem_range] at hi
  subst hi
  simp only [List.length_range] at hlt
  have hpos : 0 < z.size := by omega
  have hm : i % z.size < z.size := Nat.mod_lt _ hpos
  have hval : z[i % z.size]! = z[i % z.size] := by simp [hm]
  rw [hval]
  obtain ⟨y, hy⟩ : ∃ y, zs[i % z.size]? = some y := ⟨zs[i % z.size]'(by omega), by simp⟩
  obtain ⟨w, hw, hr⟩ := h.get hy
  have hw2 : w = z[i % z.size] := by
    rw [Array.getElem?_toList] at hw
    simp [hm] at hw
    exact hw.symm
  subst hw2
  have hxy : x = y := by
    unfold zerosA at hx
    split at hx
    · rename_i z1
      simp only [List.length_singleton] at hl
      rw [List.getElem?_replicate] at hx
      split at hx
      · cases hx
        rw [hl, Nat.mod_one] at hy
        simpa using hy
      · cases hx
    · simp only [List.getElem?_map, Option.map_eq_some_iff] at hx
      obtain ⟨i', hi', rfl⟩ := hx
      have := (List.getElem?_eq_some_iff.1 hi').2
      simp only [List.getElem_range] at this
      subst this
      rw [← hl, List.getD_eq_getElem?_getD, hy]
      rfl
  subst hxy
  exact hr

theorem buildSlice_ok {P : Program} {T : Tab} (hT : TOK P T) {ρ : Asg} {H H' : Heap} {W0 W : World} (hR : Rel ρ H W0 W) {t : TypeId} {len : Nat} {ps : List (Nat × AV)} {qs : List (Nat × Value)} {z : AV} (h : buildSliceA T H t len ps = some (z, H')) (hp : VPs ρ ps qs) :
    Yields P (Instr.buildSlice t len qs.toArray) ρ W0 W z H' := by
  unfold buildSliceA at h
  split at h
  · cases h
  · rename_i i ht
    split at h
    · rename_i e hund
      split at h
      · cases h
      · rename_i j hj
        split at h
        · rename_i hcap
          split at h
          · rename_i cells hf
            split at h
            · rename_i hc
              obtain ⟨hcell, hlen, hzl, hz0⟩ := hc
              cases h
              have hz := zero_cells (ρ := ρ) j.zero
              have hzsz := hz.length
              simp only [Array.length_toList] at hzsz
              have hzz := zeros_ok hz (by omega) len
              have hszeq : j.zero.cells.size = j.size := by omega
              rw [hszeq] at hzz
              obtain ⟨b, g1, g2⟩ := fill_ok ps qs _ cells _ hf hp hzz
              have hbl := g2.length
              simp only [Array.length_toList] at hbl
              obtain ⟨h1, h2⟩ := hR.alloc (cells := cells) (cs := b) e (0, 0) (by omega) (by rw [List.take_of_length_le (by simp; omega)]; exact g2) (.inl rfl)
              refine ⟨.slice (some ⟨W.heap.size, 0, none⟩) len len, _, _, ?_, h1, ?_, h2⟩
              · unfold Instr.buildSlice
                rw [Sem.run_bind, hT.run_und ht, hund]
                simp only [Result.andThen_ok]
                rw [Sem.run_bind, hT.run_size hj]
                simp only [Result.andThen_ok]
                rw [if_neg (by omega)]
                by_cases h0 : len * j.size = 0
                · rw [if_pos h0]
                  simp only [pure_bind, h0]
                  have g1' : Instr.fill (fun i => some (i * j.size, j.size)) (Array.map (fun x => (#[] : Array Value)[x % (#[] : Array Value).size]!) (Array.range 0)) qs = some b := by
                    rw [← g1, h0]
                    congr 1
                    apply Array.ext <;> simp
                  rw [g1']
                  rfl
                · rw [if_neg h0, Sem.run_bind, hT.run_zero hj]
                  simp only [Result.andThen_ok, pure_bind, hszeq, g1]
                  rfl
              · simp only [VR]
                refine ⟨_, _, len, Asg.put_same _ _ _ _, rfl, fun c0 hc0 => by simpa using hc0, Nat.le_refl _, ?_, ?_, .inr rfl⟩
                · simp only; omega
                · simp only; omega
            · cases h
          · cases h
        · cases h
    · cases h

theorem makeSlice_ok {P : Program} {T : Tab} (hT : TOK P T) {ρ : Asg} {H H' : Heap} {W0 W : World} (hR : Rel ρ H W0 W) {t : TypeId} {l c z : AV} (h : makeSliceA T H t l c = some (z, H')) {u v : Value} (hl : VR ρ l u) (hc : VR ρ c v) :
    Yields P (Instr.makeSlice t u v) ρ W0 W z H' := by
  unfold makeSliceA at h
  split at h
  · rename_i i kl l kc c ht
    simp only [VR] at hl hc
    subst hl; subst hc
    split at h
    · rename_i e hund
      split at h
      · cases h
      · rename_i j hj
        split at h
        · rename_i hcond
          obtain ⟨c1, c2, c3, c4, c5, c6, c7⟩ := hcond
          cases h
          obtain ⟨inf, i1, i2, i3, i4⟩ := hT.info hj
          have hz := zero_cells (ρ := ρ) j.zero
          have hzsz := hz.length
          simp only [Array.length_toList] at hzsz
          have hzz := zeros_ok hz (by omega) c.toNat
          have hszeq : j.zero.cells.size = inf.size := by omega
          have hu := hT.und ht
          rw [hund] at hu
          have hrun := run_make (P := P) W t e inf j.zero hu i1 i4 kl kc l c c1 c2 (by rw [i3]; exact c4) c3
          rw [hszeq] at hzz
          have hsz2 : (madeCells j.zero.cells (c.toNat * inf.size)).size = c.toNat * inf.size := size_madeCells _ _
          have hzz2 : VRs ρ (zerosA (cellsOf (absC j.zero)) c.toNat) (madeCells j.zero.cells (c.toNat * inf.size)).toList := by
            unfold madeCells; rw [hszeq]; exact hzz
          have hlen := hzz2.length
          simp only [Array.length_toList] at hlen
          obtain ⟨h1, h2⟩ := hR.alloc (cells := zerosA (cellsOf (absC j.zero)) c.toNat) (cs := madeCells j.zero.cells (c.toNat * inf.size)) e (0, 0) (by omega) (by rw [List.take_of_length_le (by simp; omega)]; exact hzz2) (.inl rfl)
          refine ⟨_, _, _, hrun, h1, ?_, h2⟩
          simp only [VR]
          have hmul : l.toNat * j.size ≤ c.toNat * j.size := Nat.mul_le_mul_right _ (by omega)
          refine ⟨_, _, c.toNat, Asg.put_same _ _ _ _, rfl, fun c0 hc0 => by simpa using hc0, by omega, ?_, ?_, .inr rfl⟩
          · simp only; rw [← hlen, hsz2, i2]; omega
          · simp only; rw [hsz2, i2]; omega
        · cases h
    · cases h
  · cases h

end Go.Proofs.YtnmignkabcblgaaDoor.E
