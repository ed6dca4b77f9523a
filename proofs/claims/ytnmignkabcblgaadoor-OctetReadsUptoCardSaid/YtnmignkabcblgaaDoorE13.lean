/- Part of a claim: the operations' soundness, ninth part: append, copy, range; and all operations together. Nothing of a program stands here. -/
import Derived.Test.YtnmignkabcblgaaDoorE12
set_option linter.unusedSimpArgs false
set_option linter.unusedVariables false
namespace Go.Proofs.YtnmignkabcblgaaDoor.E
open Go Go.RowKit

theorem lenA_ok {P : Program} {ρ : Asg} {W : World} {x : AV} {n : Nat} (h : lenA x = some n) {u : Value} (hx : VR ρ x u) : (Builtin.lenOf u).run P W = .ok n W := by
  unfold lenA at h
  split at h <;> try simp only [VR] at hx
  · cases h; subst hx; rfl
  · obtain ⟨l, a, c, _, rfl, _⟩ := hx; cases h; rfl
  · cases h; subst hx; rfl
  · cases h; subst hx; rfl
  · cases h

/-- firstCells at the whole length. -/
theorem ReadsAs.first {P : Program} {W : World} {u : Value} {sz : Nat} {cs : List AV} {vs : List Value} (h : ReadsAs P W u sz cs vs) {n : Nat} (hn : (Builtin.lenOf u).run P W = .ok n W) :
    (Builtin.firstCells sz n u).run P W = .ok vs.toArray W := by
  cases h with
  | nil g1 g2 g3 => subst g1; subst g3; rfl
  | sl a len c g1 g2 g3 _ =>
    subst g1
    have : n = len := by
      simp only [Builtin.lenOf, Sem.run_pure] at hn
      cases hn; rfl
    subst this
    exact g3
  | str l g1 g2 g3 =>
    subst g1; subst g3
    have : n = l.length := by
      simp only [Builtin.lenOf, Sem.run_pure] at hn
      cases hn; rfl
    subst this
    simp only [Builtin.firstCells, Sem.run_pure]
    congr 1
    apply Array.ext'
    simp

theorem append_begin {P : Program} {T : Tab} (hT : TOK P T) {ts : Array TypeId} {t t2 : TypeId} {r : List TypeId} (hts : ts.toList = t :: t2 :: r) {i i2 j : TI} (ht : T t = some i) (ht2 : T t2 = some i2) {e : TypeId} (hund : i.und = .slice e) (hj : T e = some j)
    (hni : ∀ k, i2.und ≠ .int k) (ty : TypeId) {base : Option Addr} {sLen sCap : Nat} {u : Value} {n : Nat} {W : World} (hn : (Builtin.lenOf u).run P W = .ok n W) :
    (sLen + n ≤ sCap → ∀ (new : Array Value) (W' : World), (Builtin.firstCells j.size n u).run P W = .ok new W →
      ((∃ a, base = some a ∧ (storeCells (a.add (sLen * j.size)) new.toList).run P W = .ok () W') ∨ (base = none ∧ W' = W)) →
      (Builtin.append_ ts ty #[.slice base sLen sCap, u]).run P W = .ok (.slice base (sLen + n) sCap) W') ∧
    (sCap < sLen + n → j.bytes ≠ 0 → (sLen + n) * j.bytes ≤ 140737488355328 → ∀ old new cap, cap = sLen + n + W.tape W.drawn (.appendCap (sLen + n) sCap e) % (2 ^ 63 - (sLen + n)) →
      (Builtin.firstCells j.size sLen (.slice base sLen sCap)).run P { W with drawn := W.drawn + 1 } = .ok old { W with drawn := W.drawn + 1 } →
      (Builtin.firstCells j.size n u).run P { W with drawn := W.drawn + 1 } = .ok new { W with drawn := W.drawn + 1 } →
      (Builtin.append_ ts ty #[.slice base sLen sCap, u]).run P W = .ok (.slice (some ⟨W.heap.size, 0, none⟩) (sLen + n) cap)
        { W with heap := W.heap.push (.cells (old ++ new ++ Builtin.zeroCells j.zero.cells (cap - (sLen + n))) e), drawn := W.drawn + 1 }) := by
  have hts0 : ts[0]? = some t := by rw [← Array.getElem?_toList, hts]; rfl
  have hts1 : ts[1]? = some t2 := by rw [← Array.getElem?_toList, hts]; rfl
  have hu := hT.run_und ht
  rw [hund] at hu
  have hu2 := hT.run_und ht2
  have hinfo : ∀ V, ∃ inf, (typeInfo e).run P V = .ok inf V ∧ inf.bytes = j.bytes := fun V => by
    obtain ⟨inf, h1, _, h2, _⟩ := hT.run_info hj V; exact ⟨inf, h1, h2⟩
  constructor
  · intro hle new W' hnew hst
    unfold Builtin.append_
    simp only [hts0, hts1, List.getElem?_toArray, List.getElem?_cons_zero, List.getElem?_cons_succ]
    simp only [Sem.run_bind, hu, Result.andThen_ok, hT.run_size hj, hu2, Sem.run_pure, Bool.false_eq_true, if_false, hn]
    rw [if_pos hle]
    simp only [Bool.not_false, if_true, Sem.run_bind, hnew, Result.andThen_ok]
    rcases hst with ⟨a, rfl, hst⟩ | ⟨rfl, rfl⟩
    · simp only [Sem.run_bind, hst, Result.andThen_ok, Sem.run_pure]
    · rfl
  · intro hlt hb hfit old new cap hcap hold hnew
    have h63 : sLen + n ≤ 140737488355328 := by
      have : (sLen + n) * 1 ≤ (sLen + n) * j.bytes := Nat.mul_le_mul_left _ (Nat.pos_of_ne_zero hb)
      omega
    obtain ⟨inf, f1, f2⟩ := hinfo W
    have hgrow := growslice_fits hlt hfit
    unfold Builtin.append_
    simp only [hts0, hts1, List.getElem?_toArray, List.getElem?_cons_zero, List.getElem?_cons_succ]
    simp only [Sem.run_bind, hu, Result.andThen_ok, hT.run_size hj, hu2, Sem.run_pure, Bool.false_eq_true, if_false, hn]
    rw [if_neg (by omega)]
    simp only [Sem.run_bind, f1, Result.andThen_ok, f2]
    rw [if_neg (by intro hh; rcases hh.2 with h0 | h0; exact h0; exact hb h0)]
    simp only [Sem.run_bind, f1, Result.andThen_ok, f2]
    rw [if_neg (by omega)]
    obtain ⟨inf2, f3, f4⟩ := hinfo { W with drawn := W.drawn + 1 }
    have hask : ∀ (x : Nat) (V : World), (askRoom x).run P V = .ok () V := by
      intro x V
      unfold askRoom
      split <;> rfl
    simp only [Sem.run_bind, run_choose _ (show (Question.appendCap (sLen + n) sCap e).forced = false from rfl), Result.andThen_ok, f3, hask, hold, Bool.not_false, if_true, hnew, hT.run_zero hj, Sem.run_pure]
    have hcut : (Question.appendCap (sLen + n) sCap e).cut (W.tape W.drawn (.appendCap (sLen + n) sCap e)) = cap := by rw [hcap]; rfl
    rw [hcut]
    rfl

theorem zeroCells_size (z : Array Value) (n : Nat) : (Builtin.zeroCells z n).size = n * z.size := by simp [Builtin.zeroCells]

theorem append_ok {P : Program} {T : Tab} (hT : TOK P T) {ρ : Asg} {H H' : Heap} {W0 W : World} {M : Addr → Option AV} (hR : Rel ρ H W0 W) (hM : MOK M W0) {ts : Array TypeId} {ty : TypeId} {s x z : AV}
    (h : appendA T M H ts.toList s x = some (z, H')) {u v : Value} (hs : VR ρ s u) (hx : VR ρ x v) : Yields P (Builtin.append_ ts ty #[u, v]) ρ W0 W z H' := by
  unfold appendA at h
  split at h
  · rename_i t t2 r hts
    split at h
    · rename_i i i2 ht ht2
      split at h
      · cases h
      · rename_i hni0
        have hni : ∀ k, i2.und ≠ .int k := fun k hk => by rw [hk] at hni0; simp [isIntT] at hni0
        split at h
        · rename_i e hund
          split at h
          · cases h
          · rename_i j hj
            split at h
            · rename_i n new hlen hnew
              split at h
              · cases h
              · rename_i hcond
                simp only [not_or, ne_eq, Decidable.not_not] at hcond
                obtain ⟨c1, c2, c3, c4, c5⟩ := hcond
                have hn := lenA_ok (P := P) (W := W) hlen hx
                have hn' := lenA_ok (P := P) (W := { W with drawn := W.drawn + 1 }) hlen hx
                obtain ⟨nv, v1, v2⟩ := sliceCells_ok (P := P) hR hM hnew hx
                have hf := v2.first hn
                obtain ⟨nv', v1', v2'⟩ := sliceCells_ok (P := P) (hR.drawn (W.drawn + 1)) hM hnew hx
                have hf' := v2'.first hn'
                have hnl := v1.length
                have hnl' := v1'.length
                have hz := zero_cells (ρ := ρ) j.zero
                have hzl := hz.length
                simp only [Array.length_toList] at hzl
                -- a fresh block
                have fresh : ∀ (base : Option Addr) (sLen sCap : Nat) (old : List AV) (ov : List Value), u = .slice base sLen sCap → sCap < sLen + n → (sLen + n) * j.bytes ≤ 140737488355328 → old.length = sLen * j.size →
                    VRs ρ old ov → (Builtin.firstCells j.size sLen (.slice base sLen sCap)).run P { W with drawn := W.drawn + 1 } = .ok ov.toArray { W with drawn := W.drawn + 1 } →
                    ∃ (cap : Nat) (cs : Array Value), sLen + n ≤ cap ∧ cs.size = cap * j.size ∧ VRs ρ (old ++ new) (cs.toList.take ((sLen + n) * j.size)) ∧
                      (Builtin.append_ ts ty #[u, v]).run P W = .ok (.slice (some ⟨W.heap.size, 0, none⟩) (sLen + n) cap) { W with heap := W.heap.push (.cells cs e), drawn := W.drawn + 1 } := by
                  intro base sLen sCap old ov hu hlt hfit hol hov hold
                  subst hu
                  obtain ⟨cap, hcap⟩ : ∃ cap, cap = sLen + n + W.tape W.drawn (.appendCap (sLen + n) sCap e) % (2 ^ 63 - (sLen + n)) := ⟨_, rfl⟩
                  have hrun := (append_begin hT hts ht ht2 hund hj hni ty (base := base) (sLen := sLen) (sCap := sCap) hn).2 hlt c2 hfit ov.toArray nv'.toArray cap hcap hold hf'
                  have hovl := hov.length
                  have hmul : (sLen + n) * j.size = sLen * j.size + n * j.size := Nat.add_mul _ _ _
                  refine ⟨cap, _, by omega, ?_, ?_, hrun⟩
                  · simp only [Array.size_append, List.size_toArray, zeroCells_size]
                    have hzs : j.zero.cells.size = j.size := by omega
                    rw [hzs, hovl, hnl', hol, c5, ← Nat.add_mul, ← Nat.add_mul]
                    congr 1
                    omega
                  · simp only [Array.toList_append]
                    have hall := hov.append v1'
                    rw [List.take_append_of_le_length (by simp; omega)]
                    rw [List.take_of_length_le (by simp; omega)]
                    exact hall
                split at h
                · -- nothing is appended
                  rename_i hn0
                  subst hn0
                  have hnv : nv = [] := List.eq_nil_of_length_eq_zero (by rw [hnl, c5]; simp)
                  subst hnv
                  have stay : ∀ (base : Option Addr) (sLen sCap : Nat), u = .slice base sLen sCap → sLen ≤ sCap → (Builtin.append_ ts ty #[u, v]).run P W = .ok u W := by
                    intro base sLen sCap hu hle
                    subst hu
                    have := (append_begin hT hts ht ht2 hund hj hni ty (base := base) (sLen := sLen) (sCap := sCap) hn).1 hle #[] W hf (by
                      cases base with
                      | none => exact .inr ⟨rfl, rfl⟩
                      | some a => exact .inl ⟨a, rfl, rfl⟩)
                    exact this
                  split at h
                  · cases h
                    have hs0 := hs
                    simp only [VR] at hs0
                    exact Yields.same (stay none 0 0 hs0 (Nat.le_refl _)) hs hR
                  · cases h
                    have hs0 := hs
                    simp only [VR] at hs0
                    obtain ⟨L, a, c, k1, k2, k3, k4, _⟩ := hs0
                    exact Yields.same (stay _ _ _ k2 k4) hs hR
                  · split at h
                    · rename_i hle
                      cases h
                      have hs0 := hs
                      simp only [VR] at hs0
                      exact Yields.same (stay _ _ _ hs0 hle) hs hR
                    · cases h
                  · cases h
                · rename_i hn0
                  -- a fresh block behind what is read
                  have freshR : ∀ (base : Option Addr) (sLen sCap : Nat) (old : List AV), u = .slice base sLen sCap → sCap < sLen + n → (sLen + n) * j.bytes ≤ 140737488355328 → old.length = sLen * j.size → sliceCells M H s j.size = some old →
                      Yields P (Builtin.append_ ts ty #[u, v]) ρ W0 W (.slice H.length 0 0 j.size (sLen + n) none) (H ++ [.c (old ++ new) e 0 0]) := by
                    intro base sLen sCap old hu hlt hfit hol hsc
                    obtain ⟨ov, o1, o2⟩ := sliceCells_ok (P := P) (hR.drawn (W.drawn + 1)) hM hsc hs
                    have hlen2 : (Builtin.lenOf u).run P { W with drawn := W.drawn + 1 } = .ok sLen { W with drawn := W.drawn + 1 } := by rw [hu]; rfl
                    have ho := o2.first hlen2
                    rw [hu] at ho
                    obtain ⟨cap, cs, q1, q2, q3, q4⟩ := fresh base sLen sCap old ov hu hlt hfit hol o1 ho
                    have hlall : (old ++ new).length = (sLen + n) * j.size := by rw [List.length_append, hol, c5, Nat.add_mul]
                    have hmul : (sLen + n) * j.size ≤ cap * j.size := Nat.mul_le_mul_right _ q1
                    obtain ⟨h1, h2⟩ := (hR.drawn (W.drawn + 1)).alloc (cells := old ++ new) (cs := cs) e (0, 0) (by omega) (by rw [hlall]; exact q3) (.inl rfl)
                    refine ⟨_, _, _, q4, h1, ?_, h2⟩
                    simp only [VR]
                    refine ⟨_, _, cap, Asg.put_same _ _ _ _, rfl, by simp, q1, ?_, ?_, .inr rfl⟩
                    · simp only; omega
                    · simp only; omega
                  split at h
                  · -- onto nil
                    split at h
                    · rename_i hfit
                      cases h
                      have hs0 := hs
                      simp only [VR] at hs0
                      have := freshR none 0 0 [] hs0 (by omega) (by simpa using hfit) (by simp) rfl
                      simpa using this
                    · cases h
                  · -- a slice whose capacity is known
                    rename_i b ep off sz len cap
                    have hs0 := hs
                    simp only [VR] at hs0
                    obtain ⟨L, a, c, k1, k2, k3, k4, k5, k6, k7⟩ := hs0
                    have hcc := k3 cap rfl
                    subst hcc
                    split at h
                    · cases h
                    · rename_i hsz
                      have hsz : sz = j.size := by simpa using hsz
                      subst hsz
                      split at h
                      · rename_i cells el ep' sep' hb
                        split at h
                        · rename_i hle
                          split at h
                          · rename_i hcond2
                            obtain ⟨rfl, hle2⟩ := hcond2
                            cases h
                            obtain ⟨_, ⟨L', q1, q2⟩, _⟩ := hR.blk b _ hb
                            rw [k1] at q1; cases q1
                            have ha : a = ⟨L.cb, off, none⟩ := by
                              rcases k7 with ⟨_, k7⟩ | k7
                              · omega
                              · exact k7
                            subst ha
                            have hmul : (len + n) * j.size = len * j.size + n * j.size := Nat.add_mul _ _ _
                            obtain ⟨g1, g2⟩ := hR.stores (P := P) (off := off + len * j.size) hb k1 (by omega) v1 c4
                            have hrun := (append_begin hT hts ht ht2 hund hj hni ty (base := some ⟨L.cb, off, none⟩) (sLen := len) (sCap := c) hn).1 hle nv.toArray _ hf (.inl ⟨_, rfl, by rw [addr_add]; exact g1⟩)
                            rw [← k2] at hrun
                            refine ⟨_, _, ρ, hrun, Le.refl ρ, ?_, g2⟩
                            simp only [VR]
                            exact ⟨L, _, c, k1, rfl, by simp, hle, by omega, k6, .inr rfl⟩
                          · cases h
                        · rename_i hgt
                          split at h
                          · rename_i old hsc
                            split at h
                            · rename_i hc3
                              cases h
                              exact freshR _ _ _ old k2 (by omega) hc3.2.2 hc3.1 hsc
                            · cases h
                          · cases h
                      · cases h
                  · -- a row that may grow
                    rename_i b ep off sz len
                    have hs0 := hs
                    simp only [VR] at hs0
                    obtain ⟨L, a, c, k1, k2, k3, k4, k5, k6, k7⟩ := hs0
                    split at h
                    · cases h
                    · rename_i hsz
                      simp only [not_or, ne_eq, Decidable.not_not] at hsz
                      obtain ⟨rfl, rfl⟩ := hsz
                      split at h
                      · rename_i cells el ep' sep' hb
                        split at h
                        · rename_i hcond2
                          obtain ⟨hse, rfl, hle2, hfit⟩ := hcond2
                          cases h
                          rw [Nat.zero_add] at k5 k6
                          have hmul : (len + n) * j.size = len * j.size + n * j.size := Nat.add_mul _ _ _
                          by_cases hle : len + n ≤ c
                          · have ha : a = ⟨L.cb, 0, none⟩ := by
                              rcases k7 with ⟨_, k7⟩ | k7
                              · omega
                              · exact k7
                            subst ha
                            have hmul2 : (len + n) * j.size ≤ c * j.size := Nat.mul_le_mul_right _ hle
                            obtain ⟨g1, g2, g3⟩ := hR.grows_in (P := P) (n0 := len * j.size) hb hse k1 k5 (by omega) v1 c4
                            have hrun := (append_begin hT hts ht ht2 hund hj hni ty (base := some ⟨L.cb, 0, none⟩) (sLen := len) (sCap := c) hn).1 hle nv.toArray _ hf (.inl ⟨_, rfl, by rw [addr_add, Nat.zero_add]; exact g1⟩)
                            rw [← k2] at hrun
                            refine ⟨_, _, _, hrun, g2, ?_, g3⟩
                            simp only [VR]
                            exact ⟨_, _, c, Asg.put_same _ _ _ _, rfl, by simp, hle, by simp only; omega, by simp only; omega, .inr rfl⟩
                          · have hsc : sliceCells M H (.slice b ep 0 j.size len none) j.size = some (cells.take (len * j.size)) := by
                              unfold sliceCells
                              simp only [if_true, hb, Nat.zero_add, List.drop_zero]
                              by_cases hl0 : len = 0
                              · simp [hl0]
                              · rw [if_neg hl0, if_pos ⟨hse, hle2⟩]
                            obtain ⟨ov, o1, o2⟩ := sliceCells_ok (P := P) (hR.drawn (W.drawn + 1)) hM hsc hs
                            have hlen2 : (Builtin.lenOf u).run P { W with drawn := W.drawn + 1 } = .ok len { W with drawn := W.drawn + 1 } := by rw [k2]; rfl
                            have ho := o2.first hlen2
                            rw [k2] at ho
                            have hol : (cells.take (len * j.size)).length = len * j.size := by rw [List.length_take]; omega
                            obtain ⟨cap, cs, q1, q2, q3, q4⟩ := fresh (some a) len c (cells.take (len * j.size)) ov k2 (by omega) hfit hol o1 ho
                            have hmul3 : (len + n) * j.size ≤ cap * j.size := Nat.mul_le_mul_right _ q1
                            obtain ⟨g2, g3⟩ := (hR.drawn (W.drawn + 1)).grows_out (n0 := len * j.size) hb hse k1 k5 (vs := new) (cs := cs) el rfl (by omega) (by rw [c5, ← hmul]; exact q3)
                            refine ⟨_, _, _, q4, g2, ?_, g3⟩
                            simp only [VR]
                            exact ⟨_, _, cap, Asg.put_same _ _ _ _, rfl, by simp, q1, by simp only; omega, by simp only; omega, .inr rfl⟩
                        · cases h
                      · cases h
                  · -- a slice that was there before
                    rename_i a len cap
                    have hs0 := hs
                    simp only [VR] at hs0
                    split at h
                    · rename_i old hsc
                      split at h
                      · rename_i hc3
                        cases h
                        exact freshR _ _ _ old hs0 hc3.1 hc3.2.2.2 hc3.2.1 hsc
                      · cases h
                    · cases h
                  · cases h
            · cases h
        · cases h
    · cases h
  · cases h

theorem copy_ok {P : Program} {T : Tab} (hT : TOK P T) {ρ : Asg} {H H' : Heap} {W0 W : World} {M : Addr → Option AV} (hR : Rel ρ H W0 W) (hM : MOK M W0) {ts : Array TypeId} {ty : TypeId} {s x z : AV}
    (h : copyA T M H ts.toList s x = some (z, H')) {u v : Value} (hs : VR ρ s u) (hx : VR ρ x v) : Yields P (Builtin.copy_ ts ty #[u, v]) ρ W0 W z H' := by
  unfold copyA at h
  split at h
  · rename_i t r hts
    have hts0 : ts[0]? = some t := by rw [← Array.getElem?_toList, hts]; rfl
    split at h
    · rename_i i ht
      split at h
      · rename_i e hund
        have hu := hT.run_und ht
        rw [hund] at hu
        split at h
        · cases h
        · rename_i j hj
          split at h
          · rename_i m n new hlm hln hnew
            split at h
            · cases h
            · rename_i hcond
              simp only [not_or, ne_eq, Decidable.not_not] at hcond
              obtain ⟨c1, c4, c5⟩ := hcond
              have hn := lenA_ok (P := P) (W := W) hln hx
              obtain ⟨nv, v1, v2⟩ := sliceCells_ok (P := P) hR hM hnew hx
              have hnl := v1.length
              have hrun : ∀ (base : Option Addr) (dCap : Nat) (cells : Array Value) (W' : World), u = .slice base m dCap → (Builtin.firstCells j.size (Nat.min n m) v).run P W = .ok cells W →
                  ((∃ a, base = some a ∧ (storeCells a cells.toList).run P W = .ok () W') ∨ (base = none ∧ W' = W)) →
                  (Builtin.copy_ ts ty #[u, v]).run P W = .ok (goInt (Nat.min n m : Nat)) W' := by
                intro base dCap cells W' hu' hc hst
                subst hu'
                unfold Builtin.copy_
                simp only [hts0, List.getElem?_toArray, List.getElem?_cons_zero, List.getElem?_cons_succ]
                simp only [Sem.run_bind, hu, Result.andThen_ok, hT.run_size hj, hn, hc]
                rcases hst with ⟨a, rfl, hst⟩ | ⟨rfl, rfl⟩
                · simp only [Sem.run_bind, hst, Result.andThen_ok, Sem.run_pure]
                · rfl
              -- the first k elements
              have hfirst : ∀ k, k ≤ n → (Builtin.firstCells j.size k v).run P W = .ok (nv.take (k * j.size)).toArray W := by
                intro k hk
                cases v2 with
                | nil g1 g2 g3 =>
                  subst g1; subst g3
                  simp [Builtin.firstCells, Sem.run_pure]
                | sl a len c g1 g2 g3 g4 =>
                  subst g1
                  have hlen : n = len := by
                    simp only [Builtin.lenOf, Sem.run_pure] at hn
                    cases hn; rfl
                  subst hlen
                  show (loadCells a (k * j.size)).run P W = _
                  have hmk : k * j.size ≤ n * j.size := Nat.mul_le_mul_right _ hk
                  have hkl : (nv.take (k * j.size)).length = k * j.size := by rw [List.length_take]; omega
                  have := run_loadCells_list (P := P) W a (nv.take (k * j.size)) (fun i v hv => by
                    rw [List.getElem?_take] at hv
                    split at hv
                    · exact g4 i v hv
                    · cases hv)
                  rw [hkl] at this
                  exact this
                | str l g1 g2 g3 =>
                  subst g1; subst g3
                  have hlen : n = l.length := by
                    simp only [Builtin.lenOf, Sem.run_pure] at hn
                    cases hn; rfl
                  subst hlen
                  simp only [Builtin.firstCells, Sem.run_pure]
                  congr 1
                  apply Array.ext'
                  rw [g2, Nat.mul_one]
                  simp [List.extract, List.map_take]
              have hmin : ((Nat.min n m : Nat) : Int) = ((min n m : Nat) : Int) := rfl
              split at h
              · rename_i hm0
                have hf0 := hfirst (Nat.min n m) (Nat.min_le_left _ _)
                have hm0' : Nat.min n m = 0 := hm0
                rw [hm0', Nat.zero_mul, List.take_zero] at hf0
                have go : ∀ (base : Option Addr) (dCap : Nat), u = .slice base m dCap → (Builtin.copy_ ts ty #[u, v]).run P W = .ok (.int .i64 0) W := by
                  intro base dCap hu'
                  have := hrun base dCap #[] W hu' (by rw [hm0']; exact hf0) (by
                    cases base with
                    | none => exact .inr ⟨rfl, rfl⟩
                    | some a => exact .inl ⟨a, rfl, rfl⟩)
                  rw [this, hm0']
                  rfl
                split at h
                · cases h
                  simp only [VR] at hs
                  simp only [lenA, Option.some.injEq] at hlm
                  subst hlm
                  exact Yields.same (go _ _ hs) (by simp only [VR]) hR
                · cases h
                  simp only [VR] at hs
                  obtain ⟨L, a, c, k1, k2, _⟩ := hs
                  simp only [lenA, Option.some.injEq] at hlm
                  subst hlm
                  exact Yields.same (go _ _ k2) (by simp only [VR]) hR
                · cases h
              · rename_i hm0
                split at h
                · rename_i b ep off sz len cap
                  simp only [lenA, Option.some.injEq] at hlm
                  subst hlm
                  simp only [VR] at hs
                  obtain ⟨L, a, c, k1, k2, k3, k4, k5, k6, k7⟩ := hs
                  split at h
                  · cases h
                  · rename_i hsz
                    have hsz : sz = j.size := by simpa using hsz
                    subst hsz
                    split at h
                    · rename_i cells el ep' sep' hb
                      split at h
                      · rename_i hcond2
                        obtain ⟨rfl, hle2⟩ := hcond2
                        cases h
                        obtain ⟨_, ⟨L', q1, q2⟩, _⟩ := hR.blk b _ hb
                        rw [k1] at q1; cases q1
                        have hmn : min n len ≤ len := Nat.min_le_right _ _
                        have ha : a = ⟨L.cb, off, none⟩ := by
                          rcases k7 with ⟨_, k7⟩ | k7
                          · omega
                          · exact k7
                        subst ha
                        have hmul : min n len * j.size ≤ len * j.size := Nat.mul_le_mul_right _ hmn
                        have hf := hfirst (min n len) (Nat.min_le_left _ _)
                        have vt := v1.take (min n len * j.size)
                        obtain ⟨g1, g2⟩ := hR.stores (P := P) (off := off) (vs := new.take (min n len * j.size)) hb k1 (by rw [List.length_take]; omega) vt (by
                          rw [List.all_eq_true] at c4 ⊢
                          exact fun y hy => c4 y (List.mem_of_mem_take hy))
                        refine ⟨_, _, ρ, hrun _ _ _ _ k2 hf (.inl ⟨_, rfl, g1⟩), Le.refl ρ, ?_, g2⟩
                        simp only [VR, goInt]
                      · cases h
                    · cases h
                · cases h
          · cases h
      · cases h
    · cases h
  · cases h

theorem Rel.new_iter {ρ : Asg} {H : Heap} {W0 W : World} (h : Rel ρ H W0 W) (s : List UInt8) :
    Le ρ (ρ.put H.length 0 ⟨W.heap.size, 1, 1⟩) ∧ Rel (ρ.put H.length 0 ⟨W.heap.size, 1, 1⟩) (H ++ [.it s 0]) W0 { W with heap := W.heap.push (.stringIter ⟨⟨s⟩⟩ 0) } := by
  have hle : Le ρ (ρ.put H.length 0 ⟨W.heap.size, 1, 1⟩) := Asg.put_le (h.fresh 0)
  refine ⟨hle, ⟨Below.push h.below _, ?_, ?_, ?_⟩⟩
  · intro b e l q
    rcases Asg.put_inv q with ⟨rfl, rfl, rfl⟩ | q
    · have := h.below.size; simp; omega
    · have := h.dom b e l q; simp; omega
  · intro b b' e e' l l' q q' hcb
    rcases Asg.put_inv q with ⟨rfl, rfl, rfl⟩ | q <;> rcases Asg.put_inv q' with ⟨rfl, rfl, rfl⟩ | q'
    · rfl
    · have := (h.dom _ _ _ q').2.2; simp at hcb; omega
    · have := (h.dom _ _ _ q).2.2; simp at hcb; omega
    · exact h.own b b' e e' l l' q q' hcb
  · intro b x hb
    rw [List.getElem?_append] at hb
    split at hb
    · rename_i hlt
      refine h.keep_push hle _ hb fun e l q => ?_
      rcases Asg.put_inv q with ⟨rfl, _, _⟩ | q
      · omega
      · exact q
    · rename_i hge
      have hb0 : b = H.length := by
        have h1 : b - H.length = 0 := by
          rcases Nat.eq_zero_or_pos (b - H.length) with h0 | h0
          · exact h0
          · rw [List.getElem?_eq_none (by simp; omega)] at hb; cases hb
        omega
      subst hb0
      simp at hb
      subst hb
      refine ⟨⟨_, Asg.put_same _ _ _ _, ?_⟩, ?_⟩
      · show (W.heap.push _)[W.heap.size]? = _
        simp
      · intro e l q
        rcases Asg.put_inv q with ⟨_, rfl, _⟩ | q
        · rfl
        · rw [h.fresh e] at q; cases q

theorem range_ok {P : Program} {T : Tab} (hT : TOK P T) {ρ : Asg} {H H' : Heap} {W0 W : World} (hR : Rel ρ H W0 W) {t : TypeId} {x z : AV} (h : rangeA T H t x = some (z, H')) {u : Value} (hx : VR ρ x u) :
    Yields P (Instr.range t u) ρ W0 W z H' := by
  unfold rangeA at h
  split at h
  · rename_i i s ht
    split at h
    · rename_i hund
      cases h
      simp only [VR] at hx
      subst hx
      obtain ⟨h1, h2⟩ := hR.new_iter s
      refine ⟨.pointer (some ⟨W.heap.size, 0, none⟩), _, _, ?_, h1, ?_, h2⟩
      · unfold Instr.range
        rw [Sem.run_bind, hT.run_und ht, hund]
        rfl
      · simp only [VR]
        exact ⟨_, Asg.put_same _ _ _ _, by simp, rfl⟩
    · cases h
  · cases h

theorem next_ok {P : Program} {ρ : Asg} {H H' : Heap} {W0 W : World} (hR : Rel ρ H W0 W) {x z : AV} (h : nextA H x = some (z, H')) {u : Value} (hx : VR ρ x u) (t : TypeId) : Yields P (Instr.next u true t) ρ W0 W z H' := by
  unfold nextA at h
  split at h
  · rename_i b
    simp only [VR] at hx
    obtain ⟨l, k1, k2, rfl⟩ := hx
    split at h
    · rename_i s pos hb
      obtain ⟨⟨l', q1, q2⟩, q3⟩ := hR.blk b _ hb
      rw [k1] at q1; cases q1
      have hd := hR.dom b 0 l k1
      have hget : (getObj l.cb).run P W = .ok (.stringIter ⟨⟨s⟩⟩ pos) W := by simp [getObj, Sem.run, q2]
      split at h
      · rename_i hpos
        cases h
        refine ⟨.tuple #[.bool true, goInt pos, .int .i32 (decodeA s pos).1], { W with heap := W.heap.setIfInBounds l.cb (.stringIter ⟨⟨s⟩⟩ (pos + (decodeA s pos).2)) }, ρ, ?_, Le.refl ρ, ?_, ?_⟩
        · unfold Instr.next
          simp only
          rw [Sem.run_bind, hget]
          simp only [Result.andThen_ok]
          rw [if_pos (show pos < (ByteArray.mk ⟨s⟩).size from hpos)]
          simp only [Sem.run_bind, setObj, Sem.run, q2, Result.andThen_ok, Sem.run_pure]
          rfl
        · simp only [VR]
          refine ⟨_, rfl, ?_⟩
          simp only [VRs, VR, goInt]
          exact ⟨_, _, rfl, rfl, _, _, rfl, rfl, _, _, rfl, rfl, rfl⟩
        · have hne : ∀ k, k ≠ l.cb → ({ W with heap := W.heap.setIfInBounds l.cb (.stringIter ⟨⟨s⟩⟩ (pos + (decodeA s pos).2)) } : World).heap[k]? = W.heap[k]? := by
            intro k hk
            show (W.heap.setIfInBounds _ _)[k]? = _
            rw [Array.getElem?_setIfInBounds, if_neg (fun e => hk e.symm)]
          refine ⟨⟨hR.below.os, hR.below.tape, hR.below.output, by simp; exact hR.below.size, fun k hk => ?_⟩, fun b' e l2 q => ?_, hR.own, fun b' y hy => ?_⟩
          · rw [hne k (by omega)]; exact hR.below.block k hk
          · rw [List.length_set]
            simp only [Array.size_setIfInBounds]
            exact hR.dom b' e l2 q
          · rw [List.getElem?_set] at hy
            by_cases hbb : b = b'
            · subst hbb
              rw [if_pos rfl, if_pos hd.1] at hy
              cases hy
              refine ⟨⟨l, k1, ?_⟩, q3⟩
              show (W.heap.setIfInBounds _ _)[l.cb]? = _
              rw [Array.getElem?_setIfInBounds, if_pos rfl, if_pos hd.2.2]
            · rw [if_neg hbb] at hy
              have hk := hR.blk b' y hy
              have hother : ∀ e' l', ρ b' e' = some l' → ({ W with heap := W.heap.setIfInBounds l.cb (.stringIter ⟨⟨s⟩⟩ (pos + (decodeA s pos).2)) } : World).heap[l'.cb]? = W.heap[l'.cb]? :=
                fun e' l' q => hne _ (fun hc => hbb (hR.own b' b e' 0 l' l q k1 hc).symm)
              cases y with
              | c cells elem ep sep =>
                obtain ⟨p1, p2, p3, p4⟩ := hk
                exact ⟨p1, p2, p3, fun e2 l2 he2 q => (p4 e2 l2 he2 q).mono (Le.refl ρ) (hother e2 l2 q)⟩
              | it s2 pos2 =>
                obtain ⟨⟨l2, p1, p2⟩, p3⟩ := hk
                exact ⟨⟨l2, p1, by rw [hother 0 l2 p1]; exact p2⟩, p3⟩
              | dead => trivial
      · rename_i hpos
        cases h
        refine Yields.same (cv := .tuple #[.bool false]) ?_ (by simp only [VR]; exact ⟨_, rfl, by simp only [VRs, VR]; exact ⟨_, _, rfl, rfl, rfl⟩⟩) hR
        unfold Instr.next
        simp only
        rw [Sem.run_bind, hget]
        simp only [Result.andThen_ok]
        rw [if_neg (show ¬ pos < (ByteArray.mk ⟨s⟩).size from hpos)]
        rfl
    · cases h
  · cases h

end Go.Proofs.YtnmignkabcblgaaDoor.E
