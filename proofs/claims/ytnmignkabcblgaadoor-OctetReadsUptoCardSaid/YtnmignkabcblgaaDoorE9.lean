/- Part of a claim: the operations' soundness, fifth part: elements, slices, lengths. Nothing of a program stands here. -/
import Derived.Test.YtnmignkabcblgaaDoorE8
set_option linter.unusedSimpArgs false
set_option linter.unusedVariables false
namespace Go.Proofs.YtnmignkabcblgaaDoor.E
open Go Go.RowKit

theorem extract_ok {P : Program} {ρ : Asg} {H : Heap} {W0 W : World} (hR : Rel ρ H W0 W) {x z : AV} {i : Nat} (h : extractA x i = some z) {u : Value} (hx : VR ρ x u) : Yields P (Instr.extract u i) ρ W0 W z H := by
  unfold extractA at h
  split at h
  · rename_i l
    simp only [VR] at hx
    obtain ⟨vs, rfl, hv⟩ := hx
    obtain ⟨cv, h1, h2⟩ := hv.get h
    rw [Array.getElem?_toList] at h1
    exact Yields.same (cv := cv) (by simp [Instr.extract, h1, Sem.run_pure]) h2 hR
  · cases h

theorem index_ok {P : Program} {T : Tab} (hT : TOK P T) {ρ : Asg} {H : Heap} {W0 W : World} (hR : Rel ρ H W0 W) {t : TypeId} {x i z : AV} (h : indexA T t x i = some z) {u v : Value} (hx : VR ρ x u) (hi : VR ρ i v) :
    Yields P (Instr.index t u v) ρ W0 W z H := by
  unfold indexA at h
  split at h
  · rename_i ti k n ht
    simp only [VR] at hi
    subst hi
    have hu := hT.run_und ht W
    split at h
    · rename_i len e cs hund
      rw [hund] at hu
      simp only [VR] at hx
      obtain ⟨vs, rfl, hv⟩ := hx
      split at h
      · cases h
      · rename_i j hj
        split at h
        · rename_i hb
          obtain ⟨cv, h1, h2⟩ := part_ok hT h hv W
          refine Yields.same ?_ h2 hR
          unfold Instr.index
          simp only [asIntOf, Sem.run_bind, Sem.run_pure, Result.andThen_ok, hu]
          rw [if_pos hb]
          simp only [Sem.run_bind, hT.run_size hj, Result.andThen_ok]
          exact h1
        · cases h
    · rename_i s hund
      rw [hund] at hu
      simp only [VR] at hx
      subst hx
      split at h
      · rename_i hn
        simp only [Option.map_eq_some_iff] at h
        obtain ⟨b, hb, rfl⟩ := h
        refine Yields.same (cv := .int .u8 b.toNat) ?_ (by simp only [VR]) hR
        unfold Instr.index
        simp only [asIntOf, Sem.run_bind, Sem.run_pure, Result.andThen_ok, hu]
        have hg : (if 0 ≤ n then (ByteArray.mk ⟨s⟩)[n.toNat]? else none) = some b := by
          rw [if_pos hn]
          have hlt : n.toNat < s.length := (List.getElem?_eq_some_iff.1 hb).1
          have hbe : s[n.toNat] = b := (List.getElem?_eq_some_iff.1 hb).2
          rw [getElem?_pos (ByteArray.mk ⟨s⟩) n.toNat (by show n.toNat < s.length; exact hlt)]
          simp only [Option.some.injEq]
          exact hbe
        rw [hg]
        simp [Sem.run_pure]
      · cases h
    · cases h
  · cases h

theorem indexAddr_ok {P : Program} {T : Tab} (hT : TOK P T) {ρ : Asg} {H : Heap} {W0 W : World} (hR : Rel ρ H W0 W) {t : TypeId} {x i z : AV} (h : indexAddrA T H t x i = some z) {u v : Value} (hx : VR ρ x u) (hi : VR ρ i v) :
    Yields P (Instr.indexAt t u v) ρ W0 W z H := by
  unfold indexAddrA at h
  split at h
  · rename_i ti k n ht
    simp only [VR] at hi
    subst hi
    have hu := hT.run_und ht
    split at h
    · rename_i len e hund
      rw [hund] at hu
      split at h
      · cases h
      · rename_i j hj
        split at h
        · rename_i hb
          obtain ⟨hsz, hn0, hn1⟩ := hb
          have hrun : ∀ a, u = .pointer (some a) → (Instr.indexAt t u (.int k n)).run P W = .ok (.pointer (some (a.add (n.toNat * j.size)))) W := by
            intro a ha
            subst ha
            unfold Instr.indexAt
            simp only [asIntOf, Sem.run_bind, Sem.run_pure, Result.andThen_ok, hu, Instr.sureAddr]
            rw [if_pos ⟨hn0, hn1⟩]
            simp only [Sem.run_bind, hT.run_size hj, Result.andThen_ok, Sem.run_pure]
          split at h
          · rename_i b ep off
            split at h
            · rename_i hok
              cases h
              simp only [VR] at hx
              obtain ⟨l, h1, h2, rfl⟩ := hx
              refine Yields.same (hrun _ rfl) ?_ hR
              simp only [VR]
              unfold ptrOK at hok
              split at hok
              · rename_i cells elem ep' sep hb
                simp only [Bool.and_eq_true, decide_eq_true_eq] at hok
                obtain ⟨_, ⟨l', q1, q2⟩, _⟩ := hR.blk b _ hb
                obtain ⟨rfl, hlt⟩ := hok
                rw [h1] at q1; cases q1
                exact ⟨l, h1, by omega, by rw [addr_add]⟩
              · cases hok
            · cases h
          · rename_i a
            cases h
            simp only [VR] at hx
            subst hx
            exact Yields.same (hrun _ rfl) (by simp only [VR]) hR
          · cases h
        · cases h
    · rename_i e hund
      rw [hund] at hu
      split at h
      · cases h
      · rename_i j hj
        have hrun : ∀ (a : Addr) (len c : Nat), 0 ≤ n → n < (len : Int) → u = .slice (some a) len c → (Instr.indexAt t u (.int k n)).run P W = .ok (.pointer (some (a.add (n.toNat * j.size)))) W := by
          intro a len c hn0 hn1 ha
          subst ha
          unfold Instr.indexAt
          simp only [asIntOf, Sem.run_bind, Sem.run_pure, Result.andThen_ok, hu]
          rw [if_pos ⟨hn0, hn1⟩]
          simp only [Sem.run_bind, hT.run_size hj, Result.andThen_ok, Sem.run_pure]
        split at h
        · rename_i b ep off sz len cap
          split at h
          · rename_i hc
            obtain ⟨hjs, hsz0, hn0, hn1⟩ := hc
            cases h
            simp only [VR] at hx
            obtain ⟨l, a, c, h1, rfl, h3, h4, h5, h6, h7⟩ := hx
            refine Yields.same (hrun a len c hn0 hn1 rfl) ?_ hR
            simp only [VR]
            have hlt : n.toNat < len := by omega
            have hmul : (n.toNat + 1) * sz ≤ len * sz := Nat.mul_le_mul_right sz hlt
            have hsz1 : 0 < sz := Nat.pos_of_ne_zero hsz0
            rw [Nat.add_mul, Nat.one_mul] at hmul
            rcases h7 with h7 | rfl
            · omega
            · exact ⟨l, h1, by omega, by rw [addr_add, hjs]⟩
          · cases h
        · rename_i a len cap
          split at h
          · rename_i hc
            cases h
            simp only [VR] at hx
            subst hx
            exact Yields.same (hrun a len cap hc.1 hc.2 rfl) (by simp only [VR]) hR
          · cases h
        · cases h
    · cases h
  · cases h

theorem len_ok {P : Program} {T : Tab} (hT : TOK P T) {ρ : Asg} {H : Heap} {W0 W : World} (hR : Rel ρ H W0 W) {ts : Array TypeId} {ty : TypeId} {x z : AV} (h : lenB T ts.toList x = some z) {u : Value} (hx : VR ρ x u) :
    Yields P (Builtin.len_ ts ty #[u]) ρ W0 W z H := by
  unfold lenB at h
  split at h
  · rename_i t r hts
    have hts0 : ts[0]? = some t := by rw [← Array.getElem?_toList, hts]; rfl
    split at h
    · rename_i i ht
      have hu := hT.run_und ht
      have hpre : ∀ cv, (match i.und, u with | .array n _, _ => some (goInt n) | .string, .string s => some (goInt s.size) | .slice _, .slice _ n _ => some (goInt n) | _, _ => none) = some cv →
          (Builtin.len_ ts ty #[u]).run P W = .ok cv W := by
        intro cv hc
        unfold Builtin.len_
        simp only [hts0, List.getElem?_toArray, List.getElem?_cons_zero]
        rw [Sem.run_bind, hu]
        simp only [Result.andThen_ok]
        split at hc <;> first
          | (cases hc; rename_i hund; simp [hund, Sem.run_pure]; done)
          | (cases hc; done)
      split at h
      · rename_i n e hund
        cases h
        exact Yields.same (cv := goInt n) (hpre _ (by rw [hund])) (by simp only [VR, goInt]) hR
      · rename_i s hund
        cases h
        simp only [VR] at hx
        subst hx
        exact Yields.same (cv := goInt s.length) (hpre _ (by rw [hund]; rfl)) (by simp only [VR, goInt]) hR
      · rename_i e x hund
        split at h <;> try simp only [VR] at hx
        · cases h; subst hx
          exact Yields.same (cv := goInt (0 : Nat)) (hpre _ (by rw [hund])) (by simp only [VR, goInt]; rfl) hR
        · rename_i b ep off sz len cap
          cases h
          obtain ⟨l, a, c, _, rfl, _⟩ := hx
          exact Yields.same (cv := goInt len) (hpre _ (by rw [hund])) (by simp only [VR, goInt]) hR
        · rename_i a len cap
          cases h; subst hx
          exact Yields.same (cv := goInt len) (hpre _ (by rw [hund])) (by simp only [VR, goInt]) hR
        · cases h
      · cases h
    · cases h
  · cases h

theorem cap_ok {P : Program} {T : Tab} (hT : TOK P T) {ρ : Asg} {H : Heap} {W0 W : World} (hR : Rel ρ H W0 W) {ts : Array TypeId} {ty : TypeId} {x z : AV} (h : capB T ts.toList x = some z) {u : Value} (hx : VR ρ x u) :
    Yields P (Builtin.cap_ ts ty #[u]) ρ W0 W z H := by
  unfold capB at h
  split at h
  · rename_i t r hts
    have hts0 : ts[0]? = some t := by rw [← Array.getElem?_toList, hts]; rfl
    split at h
    · rename_i i ht
      have hu := hT.run_und ht
      have hpre : ∀ e a n c, i.und = .slice e → u = .slice a n c → (Builtin.cap_ ts ty #[u]).run P W = .ok (goInt c) W := by
        intro e a n c hund hc
        subst hc
        unfold Builtin.cap_
        simp only [hts0, List.getElem?_toArray, List.getElem?_cons_zero]
        rw [Sem.run_bind, hu]
        simp only [Result.andThen_ok, hund, Sem.run_pure]
      split at h <;> try simp only [VR] at hx
      · rename_i e hund
        cases h; subst hx
        exact Yields.same (cv := goInt (0 : Nat)) (hpre e _ _ _ hund rfl) (by simp only [VR, goInt]; rfl) hR
      · rename_i e b ep off sz len c hund
        cases h
        obtain ⟨l, a, c', _, rfl, h3, _⟩ := hx
        have := h3 c rfl
        subst this
        exact Yields.same (cv := goInt c') (hpre e _ _ _ hund rfl) (by simp only [VR, goInt]) hR
      · rename_i e a len c hund
        cases h; subst hx
        exact Yields.same (cv := goInt c) (hpre e _ _ _ hund rfl) (by simp only [VR, goInt]) hR
      · cases h
    · cases h
  · cases h

theorem min2_ok {P : Program} {ρ : Asg} {W : World} {x y z : AV} (h : min2A x y = some z) {u v : Value} (hx : VR ρ x u) (hy : VR ρ y v) : ∃ cv, (Builtin.min2 u v).run P W = .ok cv W ∧ VR ρ z cv := by
  unfold min2A at h
  split at h
  · simp only [VR] at hx hy; subst hx; subst hy
    split at h
    · cases h; exact ⟨_, rfl, by simp only [VR]⟩
    · cases h
  · cases h
theorem max2_ok {P : Program} {ρ : Asg} {W : World} {x y z : AV} (h : max2A x y = some z) {u v : Value} (hx : VR ρ x u) (hy : VR ρ y v) : ∃ cv, (Builtin.max2 u v).run P W = .ok cv W ∧ VR ρ z cv := by
  unfold max2A at h
  split at h
  · simp only [VR] at hx hy; subst hx; subst hy
    split at h
    · cases h; exact ⟨_, rfl, by simp only [VR]⟩
    · cases h
  · cases h

theorem fold_ok {P : Program} {ρ : Asg} {W : World} {f : AV → AV → Option AV} {g : Value → Value → Sem Value}
    (hfg : ∀ {x y z : AV} {u v : Value}, f x y = some z → VR ρ x u → VR ρ y v → ∃ cv, (g u v).run P W = .ok cv W ∧ VR ρ z cv) :
    ∀ (l : List AV) (x z : AV) (vs : List Value) (u : Value), l.foldlM f x = some z → VR ρ x u → VRs ρ l vs → ∃ cv, (vs.foldlM g u).run P W = .ok cv W ∧ VR ρ z cv
  | [], x, z, vs, u, h, hx, hv => by
    simp only [VRs] at hv; subst hv
    simp only [List.foldlM_nil, pure, Option.some.injEq] at h; subst h
    exact ⟨u, by simp [Sem.run_pure], hx⟩
  | y :: l, x, z, vs, u, h, hx, hv => by
    simp only [VRs] at hv
    obtain ⟨v, ws, rfl, h1, h2⟩ := hv
    simp only [List.foldlM_cons, Option.bind_eq_bind, Option.bind_eq_some_iff] at h
    obtain ⟨w, hw, h⟩ := h
    obtain ⟨cv, q1, q2⟩ := hfg hw hx h1
    obtain ⟨cv', q3, q4⟩ := fold_ok hfg l w z ws cv h q2 h2
    exact ⟨cv', by rw [List.foldlM_cons, Sem.run_bind, q1]; exact q3, q4⟩

theorem makeInterface_ok {P : Program} {T : Tab} (hT : TOK P T) {ρ : Asg} {H : Heap} {W0 W : World} (hR : Rel ρ H W0 W) {t : TypeId} {i : TI} (ht : T t = some i) (hn : ∀ ms, i.und ≠ .interface ms) {x : AV} {u : Value} (hx : VR ρ x u) :
    Yields P (Instr.makeInterface t u) ρ W0 W (.iface t x) H := by
  refine Yields.same (cv := .iface t u) ?_ (by simp only [VR]; exact ⟨u, rfl, hx⟩) hR
  unfold Instr.makeInterface
  rw [Sem.run_bind, hT.run_und ht]
  simp only [Result.andThen_ok]
  cases hu : i.und <;> first
    | exact absurd hu (hn _)
    | rfl

theorem bnd_ok {P : Program} {ρ : Asg} {x : Option AV} {d top r : Nat} (h : bndA x d top = some r) {v : Option Value} (hv : ∀ y, x = some y → ∃ u, v = some u ∧ VR ρ y u) (top' : Nat) (ht : top ≤ top') (code : BoundsCode) (W : World) :
    (x = none ∧ r = d) ∨ (x.isSome = true ∧ r ≤ top ∧ ∃ u, v = some u ∧ (Instr.sliceBound u top' code).run P W = .ok r W) := by
  unfold bndA at h
  split at h
  · cases h; exact .inl ⟨rfl, rfl⟩
  · rename_i k i
    split at h
    · rename_i hb
      cases h
      obtain ⟨u, h1, h2⟩ := hv _ rfl
      simp only [VR] at h2
      subst h2
      refine .inr ⟨rfl, by omega, _, h1, ?_⟩
      unfold Instr.sliceBound
      simp only [asIntOf, Sem.run_bind, Sem.run_pure, Result.andThen_ok]
      rw [if_pos ⟨hb.1, by omega⟩]
      rfl
    · cases h
  · cases h

/-- The bounds of a slice expression: 'cap'': the true capacity, of which at least 'cap' is known. -/
theorem bounds_ok {P : Program} {ρ : Asg} {len cap : Nat} {lo hi mx : Option AV} {l h m : Nat} (hb : boundsA len cap lo hi mx = some (l, h, m)) {lo' hi' mx' : Option Value}
    (hlo : ∀ x, lo = some x → ∃ v, lo' = some v ∧ VR ρ x v) (hlo0 : lo = none → lo' = none) (hhi : ∀ x, hi = some x → ∃ v, hi' = some v ∧ VR ρ x v) (hhi0 : hi = none → hi' = none)
    (hmx : ∀ x, mx = some x → ∃ v, mx' = some v ∧ VR ρ x v) (hmx0 : mx = none → mx' = none) (isSlice : Bool) (cap' : Nat) (hcap : cap ≤ cap') (W : World) :
    (Instr.sliceBounds isSlice len cap' lo' hi' mx').run P W = .ok (l, h, if mx.isSome then m else cap') W ∧ l ≤ h ∧ (h ≤ m ∨ (mx = none ∧ h = len)) ∧ m ≤ cap ∧ (mx = none → m = cap) := by
  unfold boundsA at hb
  split at hb
  · cases hb
  · rename_i m0 hm
    split at hb
    · cases hb
    · rename_i hno
      split at hb
      · cases hb
      · rename_i h0 hh
        split at hb
        · cases hb
        · rename_i l0 hl
          cases hb
          rcases bnd_ok (P := P) hl hlo h (Nat.le_refl _) (if mx'.isSome then .slice3C else .sliceB) W with ⟨rfl, rfl⟩ | ⟨l1, l2, ul, l3, l4⟩ <;>
          rcases bnd_ok (P := P) hm hmx cap' hcap (if isSlice then .slice3Acap else .slice3Alen) W with ⟨rfl, rfl⟩ | ⟨m1, m2, um, m3, m4⟩
          · rcases bnd_ok (P := P) hh hhi cap' hcap (if isSlice then .sliceAcap else .sliceAlen) W with ⟨rfl, rfl⟩ | ⟨h1, h2, uh, h3, h4⟩
            · simp [Instr.sliceBounds, hlo0, hhi0, hmx0, Sem.run_pure]
            · simp [Instr.sliceBounds, hlo0, hmx0, h3, h4, h2]
          · rcases bnd_ok (P := P) hh hhi m (Nat.le_refl _) .slice3B W with ⟨rfl, rfl⟩ | ⟨h1, h2, uh, h3, h4⟩
            · simp [m1] at hno
            · simp [Instr.sliceBounds, hlo0, m3, m4, m1, h3, h4, Sem.run_bind, h2, m2]
              intro hh; rw [hh] at m1; cases m1
          · rcases bnd_ok (P := P) hh hhi cap' hcap (if isSlice then .sliceAcap else .sliceAlen) W with ⟨rfl, rfl⟩ | ⟨h1, h2, uh, h3, h4⟩
            · rw [hmx0 rfl] at l4
              simp [Instr.sliceBounds, l3, hhi0, hmx0] at l4 ⊢
              simp [l4, l2]
            · rw [hmx0 rfl] at l4
              simp [Instr.sliceBounds, l3, h3, h4, hmx0, Sem.run_bind] at l4 ⊢
              simp [l4, l2, h2]
          · rcases bnd_ok (P := P) hh hhi m (Nat.le_refl _) .slice3B W with ⟨rfl, rfl⟩ | ⟨h1, h2, uh, h3, h4⟩
            · simp [m1] at hno
            · rw [m3] at l4
              simp [Instr.sliceBounds, l3, m3, m4, m1, h3, h4, Sem.run_bind, h2, m2] at l4 ⊢
              simp [l4, l2]
              intro hh; rw [hh] at m1; cases m1

end Go.Proofs.YtnmignkabcblgaaDoor.E
