/- Part of a claim: one text, one dyad: what a written text falls into (plain). -/
import Derived.Test.YtaaecodkdgkjoaaDoorPT7
set_option linter.unusedSimpArgs false
set_option linter.unusedVariables false
namespace Go.Proofs.YtaaecodkdgkjoaaDoor.B
open Go Go.RowKit Go.Proofs.YtaaecodkdgkjoaaDoor.E

def hd (a b : Int) : List UInt8 := Lib.itoa a ++ sgB b :: (Lib.decDigits b.natAbs ++ [105])
theorem wr_hd (a b : Int) (e : Nat) : wr a b e = hd a b ++ (if e = 0 then [] else 47 :: Lib.decDigits (2 ^ e)) := by
  unfold wr hd
  simp

theorem isD_S {c : UInt8} (h : isD c = true) : c.toNat < 128 ∧ isS c = false ∧ c ≠ 47 ∧ c ≠ 105 := by
  have h2 := isD_iff.1 h
  have hne : ∀ k : UInt8, (k.toNat < 48 ∨ 57 < k.toNat) → c ≠ k := fun k hk e => by rw [e] at h2; omega
  refine ⟨by omega, ?_, hne 47 (by decide), hne 105 (by decide)⟩
  unfold isS
  rw [beq_eq_false_iff_ne.2 (hne 43 (by decide)), beq_eq_false_iff_ne.2 (hne 45 (by decide))]
  rfl

theorem sgB_ne (b : Int) : sgB b ≠ 47 ∧ isS (sgB b) = true := by unfold sgB; split <;> decide
theorem itoa_mem {n : Int} : ∀ c ∈ Lib.itoa n, c ≠ 47 := by
  intro c hc
  by_cases h : n < 0
  · rw [itoa_neg h] at hc
    rcases List.mem_cons.1 hc with rfl | hc
    · decide
    · exact (isD_S ((dec_ok _).1 c hc)).2.2.1
  · rw [itoa_nonneg (by omega)] at hc
    exact (isD_S ((dec_ok _).1 c hc)).2.2.1
theorem hd_no (a b : Int) : (47 : UInt8) ∉ hd a b := by
  intro h
  unfold hd at h
  rcases List.mem_append.1 h with h | h
  · exact itoa_mem _ h rfl
  · rcases List.mem_cons.1 h with h | h
    · exact (sgB_ne b).1 h.symm
    · rcases List.mem_append.1 h with h | h
      · exact (isD_S ((dec_ok _).1 _ h)).2.2.1 rfl
      · simp at h

theorem hd_spl (a b : Int) : Spl (hd a b) (Lib.itoa a).length := by
  unfold hd
  refine ⟨⟨sgB b, by simp, (sgB_ne b).2⟩, fun m x hm hx => ?_⟩
  obtain ⟨k, rfl⟩ : ∃ k, m = (Lib.itoa a).length + (k + 1) := ⟨m - (Lib.itoa a).length - 1, by omega⟩
  rw [List.getElem?_append_right (by omega), Nat.add_sub_cancel_left, List.getElem?_cons_succ] at hx
  have hmem := List.mem_of_getElem? hx
  rcases List.mem_append.1 hmem with h | h
  · have := isD_S ((dec_ok _).1 _ h)
    exact ⟨this.1, this.2.1⟩
  · rw [List.mem_singleton] at h
    subst h
    decide

theorem hd_take (a b : Int) : (hd a b).take (Lib.itoa a).length = Lib.itoa a := by unfold hd; rw [List.take_left]
theorem hd_drop (a b : Int) : trimI ((hd a b).drop (Lib.itoa a).length) = sgB b :: Lib.decDigits b.natAbs := by
  unfold hd
  rw [List.drop_left, ← List.cons_append, trimI_app]
theorem hd_i (a b : Int) : ∃ t, hd a b = t ++ [105] := ⟨Lib.itoa a ++ sgB b :: Lib.decDigits b.natAbs, by unfold hd; simp⟩
theorem hd_im {b : Int} (h : b.natAbs < 9223372036854775808) : Lib.parseIntB 64 (sgB b :: Lib.decDigits b.natAbs) = .ok b := by
  unfold sgB
  by_cases c : b < 0
  · rw [if_pos c, pi_sign (.inr rfl) h, if_pos (show UInt8.toNat 45 = 45 by rfl)]
    congr 1; omega
  · rw [if_neg c, pi_sign (.inl rfl) h, if_neg (show ¬ UInt8.toNat 43 = 45 by decide)]
    congr 1; omega

/-- How often a number is halved down to 1. -/
def lgE (n : Int) : Nat := if n ≤ 1 then 0 else n.toNat.log2
theorem lgE_pow {e : Nat} : lgE ((2 ^ e : Nat) : Int) = e := by
  unfold lgE
  by_cases h : e = 0
  · subst h; rfl
  · have h1 : 2 ^ 1 ≤ 2 ^ e := Nat.pow_le_pow_right (by omega) (by omega)
    obtain ⟨p, hp⟩ : ∃ p, p = 2 ^ e := ⟨_, rfl⟩
    rw [← hp] at h1 ⊢
    rw [if_neg (by omega), Int.toNat_natCast, hp, Nat.log2_two_pow]
theorem lgE_le {n : Int} (h : I64 n) : lgE n ≤ 62 := by
  unfold lgE
  split
  · omega
  · have h0 : n.toNat ≠ 0 := by omega
    have := (Nat.log2_lt h0 (k := 63)).2 (by have : (2 : Nat) ^ 63 = 9223372036854775808 := by decide
                                             unfold I64 at h; omega)
    omega
theorem lgE_spec {n : Int} (h : 1 < n) : ((2 ^ lgE n : Nat) : Int) ≤ n ∧ n < ((2 ^ (lgE n + 1) : Nat) : Int) ∧ 0 < lgE n := by
  have h0 : n.toNat ≠ 0 := by omega
  have h1 := Nat.log2_self_le h0
  have h2 := Nat.lt_log2_self (n := n.toNat)
  have h3 : 0 < n.toNat.log2 := by
    rcases Nat.eq_zero_or_pos n.toNat.log2 with q | q
    · rw [q] at h2; omega
    · exact q
  unfold lgE
  rw [if_neg (by omega)]
  refine ⟨?_, ?_, h3⟩
  · have : ((n.toNat : Nat) : Int) = n := by omega
    rw [← this]; exact Int.ofNat_le.2 h1
  · have : ((n.toNat : Nat) : Int) = n := by omega
    rw [← this]; exact Int.ofNat_lt.2 h2

/-- What a text is cut into: what stands ahead of the stroke, the exponent. -/
def CutP (s hd : List UInt8) (E : Nat) : Prop := ((47 : UInt8) ∉ s ∧ hd = s ∧ E = 0) ∨ ∃ d n, s = hd ++ 47 :: d ∧ (47 : UInt8) ∉ hd ∧ E = lgE n ∧ ∀ m, Lib.parseIntB 64 d = .ok m → n = m

theorem app_inj {c : UInt8} {a a' d d' : List UInt8} (h : a ++ c :: d = a' ++ c :: d') (h1 : c ∉ a) (h2 : c ∉ a') : a = a' ∧ d = d' := by
  have e1 := byteAt_mid (d := d) h1
  have e2 := byteAt_mid (d := d') h2
  rw [h, e2] at e1
  have hl : a.length = a'.length := by omega
  obtain ⟨q1, q2⟩ := List.append_inj h hl
  exact ⟨q1, by injection q2⟩

theorem wr_cut {s h0 : List UInt8} {E : Nat} (hc : CutP s h0 E) {a b : Int} {e : Nat} (he : e ≤ 62) (hs : s = wr a b e) : h0 = hd a b ∧ E = e := by
  rw [wr_hd] at hs
  by_cases c : e = 0
  · subst c
    rw [if_pos rfl, List.append_nil] at hs
    rcases hc with ⟨_, q2, q3⟩ | ⟨d, n, q1, _, _, _⟩
    · exact ⟨q2.trans hs, q3⟩
    · exfalso
      apply hd_no a b
      rw [← hs, q1]; simp
  · rw [if_neg c] at hs
    rcases hc with ⟨q1, _, _⟩ | ⟨d, n, q1, q2, q3, q4⟩
    · exfalso
      apply q1
      rw [hs]; simp
    · obtain ⟨r1, r2⟩ := app_inj (q1.symm.trans hs) q2 (hd_no a b)
      refine ⟨r1, ?_⟩
      have hp := pow62 he
      have h3 := pi_itoa (n := ((2 ^ e : Nat) : Int)) (by rw [Int.natAbs_natCast]; omega)
      rw [itoa_nonneg (by exact Int.natCast_nonneg _), Int.natAbs_natCast] at h3
      rw [r2] at q4
      rw [q3, q4 _ h3, lgE_pow]

theorem wr_read {s h0 : List UInt8} {E : Nat} (hc : CutP s h0 E) {k : Int} (hk : LQ h0 k) {a b : Int} {e : Nat} (hr : Rt a b e) (hs : s = wr a b e) :
    1 ≤ k ∧ (∃ t, h0 = t ++ [105]) ∧ E = e ∧ Lib.parseIntB 64 (h0.take k.toNat) = .ok a ∧ Lib.parseIntB 64 (trimI (h0.drop k.toNat)) = .ok b := by
  unfold Rt at hr
  obtain ⟨r1, r2⟩ := wr_cut hc (by omega) hs
  subst r1
  have hk2 := hk.2.2 _ (hd_spl a b)
  have hl := (itoa_len (n := a) (by omega)).2
  have hkn : k.toNat = (Lib.itoa a).length := by omega
  refine ⟨by omega, hd_i a b, r2, ?_, ?_⟩
  · rw [hkn, hd_take, pi_itoa (by omega)]
  · rw [hkn, hd_drop, hd_im (by omega)]

/-- A text is written by one dyad alone. -/
theorem wr_inj {a b a' b' : Int} {e e' : Nat} (h : Rt a b e) (h' : Rt a' b' e') (hs : wr a b e = wr a' b' e') : a = a' ∧ b = b' ∧ e = e' := by
  have hc : CutP (wr a b e) (hd a b) e := by
    rw [wr_hd]
    by_cases c : e = 0
    · subst c
      rw [if_pos rfl, List.append_nil]
      exact .inl ⟨hd_no a b, rfl, rfl⟩
    · rw [if_neg c]
      have hp := pow62 (n := e) (by unfold Rt at h; omega)
      have h3 := pi_itoa (n := ((2 ^ e : Nat) : Int)) (by rw [Int.natAbs_natCast]; omega)
      rw [itoa_nonneg (by exact Int.natCast_nonneg _), Int.natAbs_natCast] at h3
      exact .inr ⟨_, ((2 ^ e : Nat) : Int), rfl, hd_no a b, lgE_pow.symm, fun m hm => by rw [h3] at hm; injection hm⟩
  have hlq : LQ (hd a b) ((Lib.itoa a).length : Int) := by
    refine ⟨by omega, ?_, fun n hn => ?_⟩
    · unfold hd; simp; omega
    · have h1 := hd_spl a b
      rcases Nat.lt_trichotomy n (Lib.itoa a).length with q | q | q
      · obtain ⟨⟨x, x1, x2⟩, _⟩ := h1
        have := hn.2 _ x q x1
        rw [x2] at this
        cases this.2
      · omega
      · obtain ⟨⟨x, x1, x2⟩, _⟩ := hn
        have := h1.2 _ x q x1
        rw [x2] at this
        cases this.2
  obtain ⟨_, _, p3, p4, p5⟩ := wr_read hc hlq h rfl
  obtain ⟨_, _, q3, q4, q5⟩ := wr_read hc hlq h' hs
  rw [p4] at q4
  rw [p5] at q5
  injection q4 with q4
  injection q5 with q5
  exact ⟨q4, q5, q3⟩

end Go.Proofs.YtaaecodkdgkjoaaDoor.B
