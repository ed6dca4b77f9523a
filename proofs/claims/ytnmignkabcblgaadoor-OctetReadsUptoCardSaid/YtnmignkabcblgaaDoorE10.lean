/- Part of a claim: the operations' soundness, sixth part: slice expressions, conversions, composite literals. Nothing of a program stands here. -/
import Derived.Test.YtnmignkabcblgaaDoorE9
set_option linter.unusedSimpArgs false
set_option linter.unusedVariables false
namespace Go.Proofs.YtnmignkabcblgaaDoor.E
open Go Go.RowKit

theorem slice_ok {P : Program} {T : Tab} (hT : TOK P T) {ρ : Asg} {H : Heap} {W0 W : World} (hR : Rel ρ H W0 W) {t : TypeId} {x z : AV} {lo hi mx : Option AV} (h : sliceA T H t x lo hi mx = some z) {u : Value} {lo' hi' mx' : Option Value}
    (hx : VR ρ x u) (hlo : ∀ x, lo = some x → ∃ v, lo' = some v ∧ VR ρ x v) (hlo0 : lo = none → lo' = none) (hhi : ∀ x, hi = some x → ∃ v, hi' = some v ∧ VR ρ x v) (hhi0 : hi = none → hi' = none)
    (hmx : ∀ x, mx = some x → ∃ v, mx' = some v ∧ VR ρ x v) (hmx0 : mx = none → mx' = none) : Yields P (Instr.sliceAt t u lo' hi' mx') ρ W0 W z H := by
  unfold sliceA at h
  split at h
  · cases h
  · rename_i i ht
    have hu := hT.run_und ht
    split at h
    · rename_i s hund
      rw [hund] at hu
      simp only [VR] at hx
      subst hx
      split at h
      · cases h
      · rename_i hmn
        have hmn : mx = none := by cases mx <;> simp_all
        have hmn' := hmx0 hmn
        subst hmn'
        simp only [Option.map_eq_some_iff] at h
        obtain ⟨⟨l, h', m⟩, hb, rfl⟩ := h
        obtain ⟨h1, h2, h3, h4, h5⟩ := bounds_ok (P := P) hb hlo hlo0 hhi hhi0 (mx := none) (mx' := none) (by simp) (by simp) false s.length (Nat.le_refl _) W
        refine Yields.same (cv := .string ⟨⟨(s.take h').drop l⟩⟩) ?_ (by simp only [VR]) hR
        unfold Instr.sliceAt
        rw [Sem.run_bind, hu]
        simp only [Result.andThen_ok]
        unfold Instr.slice
        rw [Sem.run_bind, hu]
        simp only [Result.andThen_ok, Option.isSome_none, Bool.false_eq_true, if_false, Sem.run_bind, Sem.run_pure]
        have e : (ByteArray.mk ⟨s⟩).size = s.length := rfl
        rw [e, h1]
        simp only [Result.andThen_ok]
        congr 2
        apply ByteArray.ext
        apply Array.ext'
        simp [List.extract, List.drop_take]
    · rename_i e hund
      rw [hund] at hu
      simp only [VR] at hx
      subst hx
      split at h
      · rename_i j l h' m hj hb
        split at h
        · rename_i hc
          obtain ⟨rfl, rfl, rfl⟩ := hc
          cases h
          obtain ⟨h1, h2, h3, h4, h5⟩ := bounds_ok (P := P) hb hlo hlo0 hhi hhi0 hmx hmx0 true 0 (Nat.le_refl _) W
          refine Yields.same (cv := .slice none 0 0) ?_ (by simp only [VR]) hR
          unfold Instr.sliceAt
          rw [Sem.run_bind, hu]
          simp only [Result.andThen_ok]
          unfold Instr.slice
          rw [Sem.run_bind, hu]
          simp only [Result.andThen_ok, Sem.run_bind, h1, ite_self, hT.run_size hj, Sem.run_pure, if_true, Nat.sub_self]
        · cases h
      · cases h
    · rename_i e b ep off sz len cap hund
      rw [hund] at hu
      simp only [VR] at hx
      obtain ⟨L, a, c, k1, rfl, k3, k4, k5, k6, k7⟩ := hx
      have hc := k3 cap rfl
      subst hc
      split at h
      · rename_i j hj
        split at h
        · rename_i hsz
          split at h
          · rename_i l h' m hb
            split at h
            · rename_i hle
              · cases h
                obtain ⟨h1, h2, h3, h4, h5⟩ := bounds_ok (P := P) hb hlo hlo0 hhi hhi0 hmx hmx0 true c (Nat.le_refl _) W
                have hm : (if mx.isSome then m else c) = m := by
                  cases mx with
                  | none => simp [h5 rfl]
                  | some y => simp
                rw [hm] at h1
                have hhm : h' ≤ m := by
                  rcases h3 with h3 | ⟨hn, rfl⟩
                  · exact h3
                  · rw [h5 hn]; exact k4
                have hmul : l * sz + (h' - l) * sz = h' * sz := by rw [← Nat.add_mul]; congr 1; omega
                have hmul2 : l * sz + (m - l) * sz = m * sz := by rw [← Nat.add_mul]; congr 1; omega
                have hmul3 : h' * sz ≤ m * sz := Nat.mul_le_mul_right sz hhm
                have hmul5 : h' * sz ≤ len * sz := Nat.mul_le_mul_right sz hle
                have hmul4 : m * sz ≤ c * sz := Nat.mul_le_mul_right sz h4
                refine Yields.same (cv := .slice (some (if m = l then a else a.add (l * sz))) (h' - l) (m - l)) ?_ ?_ hR
                · unfold Instr.sliceAt
                  rw [Sem.run_bind, hu]
                  simp only [Result.andThen_ok]
                  unfold Instr.slice
                  rw [Sem.run_bind, hu]
                  simp only [Result.andThen_ok, Sem.run_bind, h1, hT.run_size hj, Sem.run_pure, hsz]
                  split <;> simp
                · simp only [VR]
                  refine ⟨L, _, m - l, k1, rfl, fun c0 hc0 => by simpa using hc0, by omega, by omega, by omega, ?_⟩
                  by_cases hml : m = l
                  · exact .inl ⟨by rw [if_pos hml]; rcases k7 with k7 | rfl <;> simp_all, by omega⟩
                  · right
                    rw [if_neg hml]
                    rcases k7 with k7 | rfl
                    · omega
                    · rw [addr_add]
            · cases h
          · cases h
        · cases h
      · cases h
    · rename_i e b ep off sz len hund
      rw [hund] at hu
      simp only [VR] at hx
      obtain ⟨L, a, c, k1, rfl, k3, k4, k5, k6, k7⟩ := hx
      split at h
      · rename_i j hj
        split at h
        · rename_i hsz
          simp only [Option.map_eq_some_iff] at h
          obtain ⟨⟨l, h', m⟩, hb, rfl⟩ := h
          obtain ⟨h1, h2, h3, h4, h5⟩ := bounds_ok (P := P) hb hlo hlo0 hhi hhi0 hmx hmx0 true c k4 W
          have hhm : h' ≤ len := by
            rcases h3 with h3 | ⟨hn, rfl⟩
            · omega
            · exact Nat.le_refl _
          obtain ⟨m', hm'⟩ : ∃ m', m' = (if mx.isSome then m else c) := ⟨_, rfl⟩
          rw [← hm'] at h1
          have hm1 : h' ≤ m' := by
            rw [hm']
            cases mx with
            | none => simp; omega
            | some y =>
              simp
              rcases h3 with h3 | ⟨hn, _⟩
              · exact h3
              · cases hn
          have hm2 : m' ≤ c := by rw [hm']; split <;> omega
          have hmul : l * sz + (h' - l) * sz = h' * sz := by rw [← Nat.add_mul]; congr 1; omega
          have hmul2 : l * sz + (m' - l) * sz = m' * sz := by rw [← Nat.add_mul]; congr 1; omega
          have hmul3 : h' * sz ≤ len * sz := Nat.mul_le_mul_right sz hhm
          have hmul4 : m' * sz ≤ c * sz := Nat.mul_le_mul_right sz hm2
          refine Yields.same (cv := .slice (some (if m' = l then a else a.add (l * sz))) (h' - l) (m' - l)) ?_ ?_ hR
          · unfold Instr.sliceAt
            rw [Sem.run_bind, hu]
            simp only [Result.andThen_ok]
            unfold Instr.slice
            rw [Sem.run_bind, hu]
            simp only [Result.andThen_ok, Sem.run_bind, h1, hT.run_size hj, Sem.run_pure, hsz]
            split <;> simp
          · simp only [VR]
            refine ⟨L, _, m' - l, k1, rfl, fun c0 hc0 => ?_, by omega, by omega, by omega, ?_⟩
            · cases mx with
              | none => simp at hc0
              | some y => simp at hc0 hm'; omega
            by_cases hml : m' = l
            · exact .inl ⟨by rw [if_pos hml]; rcases k7 with k7 | rfl <;> simp_all, by omega⟩
            · right
              rw [if_neg hml]
              rcases k7 with k7 | rfl
              · omega
              · rw [addr_add]
        · cases h
      · cases h
    · rename_i e a len cap hund
      rw [hund] at hu
      simp only [VR] at hx
      subst hx
      split at h
      · rename_i j hj
        simp only [Option.map_eq_some_iff] at h
        obtain ⟨⟨l, h', m⟩, hb, rfl⟩ := h
        obtain ⟨h1, h2, h3, h4, h5⟩ := bounds_ok (P := P) hb hlo hlo0 hhi hhi0 hmx hmx0 true cap (Nat.le_refl _) W
        have hm : (if mx.isSome then m else cap) = m := by
          cases mx with
          | none => simp [h5 rfl]
          | some y => simp
        rw [hm] at h1
        refine Yields.same (cv := .slice (some (if m = l then a else a.add (l * j.size))) (h' - l) (m - l)) ?_ (by simp only [VR]) hR
        unfold Instr.sliceAt
        rw [Sem.run_bind, hu]
        simp only [Result.andThen_ok]
        unfold Instr.slice
        rw [Sem.run_bind, hu]
        simp only [Result.andThen_ok, Sem.run_bind, h1, hT.run_size hj, Sem.run_pure]
        split <;> simp
      · cases h
    · rename_i n e b ep off hund
      rw [hund] at hu
      simp only [VR] at hx
      obtain ⟨L, k1, k2, rfl⟩ := hx
      split at h
      · rename_i j hj
        split at h
        · rename_i l h' m hb
          split at h
          · rename_i cells el ep' sep hbk
            split at h
            · rename_i hcond
              obtain ⟨rfl, hle⟩ := hcond
              cases h
              obtain ⟨h1, h2, h3, h4, h5⟩ := bounds_ok (P := P) hb hlo hlo0 hhi hhi0 hmx hmx0 false n (Nat.le_refl _) W
              obtain ⟨q0, ⟨L', q1, q2⟩, _, q4⟩ := hR.blk b _ hbk
              rw [k1] at q1; cases q1
              obtain ⟨_, q5, _⟩ := q4 ep L q0 k1
              have hm : (if mx.isSome then m else n) = m := by
                cases mx with
                | none => simp [h5 rfl]
                | some y => simp
              rw [hm] at h1
              have hhm : h' ≤ m := by
                rcases h3 with h3 | ⟨hn, rfl⟩
                · exact h3
                · rw [h5 hn]; exact Nat.le_refl _
              have hmul : l * j.size + (h' - l) * j.size = h' * j.size := by rw [← Nat.add_mul]; congr 1; omega
              have hmul2 : l * j.size + (m - l) * j.size = m * j.size := by rw [← Nat.add_mul]; congr 1; omega
              have hmul3 : h' * j.size ≤ m * j.size := Nat.mul_le_mul_right _ hhm
              have hmul4 : m * j.size ≤ n * j.size := Nat.mul_le_mul_right _ h4
              refine Yields.same (cv := .slice (some (if m = l then ⟨L.cb, off, none⟩ else (Addr.mk L.cb off none).add (l * j.size))) (h' - l) (m - l)) ?_ ?_ hR
              · unfold Instr.sliceAt
                rw [Sem.run_bind, hu]
                simp only [Result.andThen_ok, Instr.sureAddr, Sem.run_bind, Sem.run_pure, h1, hT.run_size hj]
              · simp only [VR]
                refine ⟨L, _, m - l, k1, rfl, fun c0 hc0 => by simpa using hc0, by omega, by omega, by omega, ?_⟩
                by_cases hml : m = l
                · exact .inl ⟨by rw [if_pos hml], by omega⟩
                · right
                  rw [if_neg hml, addr_add]
            · cases h
          · cases h
        · cases h
      · cases h
    · cases h

end Go.Proofs.YtnmignkabcblgaaDoor.E
