/- Part of a claim: the first bits of a row of words, by the program and by the document. Nothing of a program stands here. -/
import Derived.Test.YtpddepehlinfnaaGreatDoorYFN
import Derived.Test.YtpddepehlinfnaaGreatDoorYS17
set_option linter.unusedSimpArgs false
set_option linter.unusedVariables false
namespace Go.Proofs.YtpddepehlinfnaaGreatDoor.FL

/-- All words lie in 32 bits. -/
def Dig (w : List Int) : Prop := ∀ x ∈ w, 0 ≤ x ∧ x < 4294967296

theorem Dig.at_ {w : List Int} (h : Dig w) (i : Nat) : 0 ≤ w.getD i 0 ∧ w.getD i 0 < 4294967296 := by
  by_cases hi : i < w.length
  · exact h _ (List.mem_of_getElem? (getD_some hi))
  · rw [List.getD_eq_getElem?_getD, List.getElem?_eq_none (by omega)]; simp

theorem pow32 (k : Nat) : (4294967296 : Nat) ^ k = 2 ^ (32 * k) := by rw [Nat.pow_mul]

/-- What digits stand for, as a natural number. -/
def nl (w : List Int) : Nat := (lim w).toNat

theorem Dig.val {w : List Int} (h : Dig w) : ((nl w : Nat) : Int) = lim w ∧ nl w < 2 ^ (32 * w.length) := by
  have := lim_lt w h
  have e : ((2 ^ (32 * w.length) : Nat) : Int) = 4294967296 ^ w.length := by rw [← pow32, Int.natCast_pow]; rfl
  unfold nl
  omega

theorem Dig.split {w : List Int} (h : Dig w) {k : Nat} (hk : k < w.length) :
    ∃ lo hi : Nat, nl w = lo + 2 ^ (32 * k) * ((w.getD k 0).toNat + 4294967296 * hi) ∧ lo < 2 ^ (32 * k) := by
  have e : w = w.take k ++ (w.getD k 0 :: w.drop (k + 1)) := by
    conv => lhs; rw [← List.take_append_drop k w]
    congr 1
    rw [List.drop_eq_getElem_cons hk]
    congr 1
    rw [List.getD_eq_getElem?_getD, List.getElem?_eq_getElem hk]; rfl
  have h1 : Dig (w.take k) := fun x hx => h x (List.mem_of_mem_take hx)
  have h2 : Dig (w.drop (k + 1)) := fun x hx => h x (List.mem_of_mem_drop hx)
  have n1 := h1.val
  have n2 := h2.val
  have n0 := h.val
  have hd := h.at_ k
  rw [List.length_take, show min k w.length = k by omega] at n1
  refine ⟨nl (w.take k), nl (w.drop (k + 1)), ?_, n1.2⟩
  have el : lim w = lim (w.take k) + 4294967296 ^ k * (w.getD k 0 + 4294967296 * lim (w.drop (k + 1))) := by
    conv => lhs; rw [e]
    rw [lim_append, List.length_take, show min k w.length = k by omega, lim]
  apply Int.ofNat_inj.1
  rw [n0.1, el, ← n1.1, ← n2.1]
  rw [Int.natCast_add, Int.natCast_mul, Int.natCast_add, Int.natCast_mul, ← pow32, Int.natCast_pow, Int.toNat_of_nonneg hd.1]
  rfl

/-- The program's first 62 bits, rounded: of a sum in units of 2^-1152. -/
theorem prog_first {T L k : Nat} (hL : L = T * 2 ^ 78) (hh : 2 ^ 54 ≤ L / 2 ^ k) : rung (sticky (L / 2 ^ k) (decide (L % 2 ^ k ≠ 0))) (-1152 + (k : Int)) = rung T (-1074) := by
  have hp := Nat.two_pow_pos k
  by_cases c : 78 ≤ k
  · obtain ⟨j, rfl⟩ : ∃ j, k = j + 78 := ⟨k - 78, by omega⟩
    have hq := Nat.two_pow_pos j
    have e1 : L / 2 ^ (j + 78) = T / 2 ^ j := by rw [hL, Nat.pow_add, Nat.mul_div_mul_right _ _ (Nat.two_pow_pos 78)]
    have e2 : L % 2 ^ (j + 78) = (T % 2 ^ j) * 2 ^ 78 := by rw [hL, Nat.pow_add, Nat.mul_mod_mul_right]
    have e3 : decide (L % 2 ^ (j + 78) ≠ 0) = decide (T % 2 ^ j ≠ 0) := by
      rw [e2]
      by_cases z : T % 2 ^ j = 0
      · rw [z, Nat.zero_mul]
      · rw [decide_eq_true z, decide_eq_true (Nat.mul_ne_zero z (Nat.ne_of_gt (Nat.two_pow_pos 78)))]
    rw [e3, e1]
    rw [e1] at hh
    have := rung_sticky (hi := T / 2 ^ j) (lo := T % 2 ^ j) (k := j) hh (Nat.mod_lt _ hq)
    rw [Nat.div_add_mod'] at this
    rw [this, show -1152 + ((j + 78 : Nat) : Int) = -1074 + (j : Int) by omega]
  · have e0 : 2 ^ 78 = 2 ^ (78 - k) * 2 ^ k := by rw [← Nat.pow_add, show 78 - k + k = 78 by omega]
    have e1 : L / 2 ^ k = T * 2 ^ (78 - k) := by rw [hL, e0, ← Nat.mul_assoc, Nat.mul_div_cancel _ hp]
    have e2 : L % 2 ^ k = 0 := by rw [hL, e0, ← Nat.mul_assoc, Nat.mul_mod_left]
    rw [e2, e1, show decide ((0 : Nat) ≠ 0) = false by decide, show sticky (T * 2 ^ (78 - k)) false = T * 2 ^ (78 - k) by simp [sticky], rung_scale, show -1152 + (k : Int) + ((78 - k : Nat) : Int) = -1074 by omega]

theorem prog_parts {r N n j : Nat} (hr : r < 2 ^ (32 * j)) (hn : n ≤ 31) :
    (r + 2 ^ (32 * j) * N) / 2 ^ (32 * j + (34 - n)) = N / 2 ^ (32 - n) / 4 ∧
    decide ((r + 2 ^ (32 * j) * N) % 2 ^ (32 * j + (34 - n)) ≠ 0) = (decide (N % 2 ^ (32 - n) ≠ 0) || decide (r ≠ 0) || decide (N / 2 ^ (32 - n) % 4 ≠ 0)) := by
  have hP := Nat.two_pow_pos (32 * j)
  have hQ := Nat.two_pow_pos (32 - n)
  have e1 : 2 ^ (32 * j + (34 - n)) = 2 ^ (32 * j) * (2 ^ (32 - n) * 4) := by rw [Nat.pow_add, show 34 - n = (32 - n) + 2 by omega, Nat.pow_add]
  have e2 : (r + 2 ^ (32 * j) * N) / 2 ^ (32 * j) = N := by rw [Nat.add_mul_div_left _ _ hP, Nat.div_eq_of_lt hr, Nat.zero_add]
  have e3 : (r + 2 ^ (32 * j) * N) % 2 ^ (32 * j) = r := by rw [Nat.add_mul_mod_self_left, Nat.mod_eq_of_lt hr]
  refine ⟨by rw [e1, ← Nat.div_div_eq_div_mul, e2, ← Nat.div_div_eq_div_mul], ?_⟩
  have e4 : (r + 2 ^ (32 * j) * N) % 2 ^ (32 * j + (34 - n)) = r + 2 ^ (32 * j) * (N % 2 ^ (32 - n) + 2 ^ (32 - n) * (N / 2 ^ (32 - n) % 4)) := by
    rw [e1, Nat.mod_mul, e2, e3, Nat.mod_mul]
  rw [e4]
  generalize N % 2 ^ (32 - n) = x
  generalize N / 2 ^ (32 - n) % 4 = y
  generalize 2 ^ (32 - n) = Q at *
  generalize 2 ^ (32 * j) = P at *
  by_cases hr0 : r = 0
  · by_cases hx : x = 0
    · by_cases hy : y = 0
      · subst hr0 hx hy; simp
      · rw [decide_eq_true hy, Bool.or_true]
        refine decide_eq_true ?_
        have h1 : 0 < Q * y := Nat.mul_pos hQ (by omega)
        have h2 : 0 < P * (x + Q * y) := Nat.mul_pos hP (by omega)
        omega
    · rw [decide_eq_true hx, Bool.true_or, Bool.true_or]
      refine decide_eq_true ?_
      have h2 : 0 < P * (x + Q * y) := Nat.mul_pos hP (by omega)
      omega
  · rw [decide_eq_true hr0, Bool.or_true, Bool.true_or]
    exact decide_eq_true (by omega)

theorem prog_mag {hi a n : Nat} (hn : n ≤ 31) (ha : a < 4294967296) : (hi * 4294967296 + a) / 2 ^ (32 - n) = hi * 2 ^ n + a / 2 ^ (32 - n) ∧ (hi * 4294967296 + a) % 2 ^ (32 - n) = a % 2 ^ (32 - n) ∧ a / 2 ^ (32 - n) < 2 ^ n ∧
    a * 4294967296 / 2 ^ (64 - n) = a / 2 ^ (32 - n) ∧ a * 2 ^ (32 + n) % 18446744073709551616 = 2 ^ (32 + n) * (a % 2 ^ (32 - n)) := by
  have hQ := Nat.two_pow_pos (32 - n)
  have e : (4294967296 : Nat) = 2 ^ n * 2 ^ (32 - n) := by rw [← Nat.pow_add, show n + (32 - n) = 32 by omega]
  have e2 : (18446744073709551616 : Nat) = 2 ^ (32 + n) * 2 ^ (32 - n) := by rw [← Nat.pow_add, show 32 + n + (32 - n) = 64 by omega]
  have e3 : 2 ^ (64 - n) = 4294967296 * 2 ^ (32 - n) := by rw [show 64 - n = 32 + (32 - n) by omega, Nat.pow_add]
  have e5 : hi * 4294967296 = 2 ^ (32 - n) * (hi * 2 ^ n) := by rw [e, ← Nat.mul_assoc, Nat.mul_comm]
  refine ⟨?_, ?_, ?_, ?_, ?_⟩
  · rw [e5, Nat.mul_add_div hQ]
  · rw [e5, Nat.mul_add_mod]
  · rw [Nat.div_lt_iff_lt_mul hQ, ← e]; exact ha
  · rw [e3, Nat.mul_comm a, Nat.mul_div_mul_left _ _ (by decide)]
  · rw [e2, Nat.mul_comm a, Nat.mul_mod_mul_left]

/-- Where the highest word stands. -/
theorem top_high {hi n : Nat} (h0 : hi ≠ 0) (hn : nb hi = 64 - n) (hn2 : n ≤ 31) : 9223372036854775808 ≤ hi * 2 ^ n ∧ hi * 2 ^ n + 2 ^ n ≤ 18446744073709551616 := by
  unfold nb at hn
  rw [if_neg h0] at hn
  have hl := Nat.log2_self_le h0
  have hu : hi < 2 ^ (hi.log2 + 1) := Nat.lt_log2_self
  have hp := Nat.two_pow_pos n
  constructor
  · rw [show 9223372036854775808 = 2 ^ hi.log2 * 2 ^ n by rw [← Nat.pow_add, show hi.log2 + n = 63 by omega]]
    exact Nat.mul_le_mul_right _ hl
  · have := Nat.mul_le_mul_right (2 ^ n) (show hi + 1 ≤ 2 ^ (hi.log2 + 1) from hu)
    rw [← Nat.pow_add, show hi.log2 + 1 + n = 64 by omega] at this
    rw [Nat.add_mul, Nat.one_mul] at this
    exact this

/-- THE PROGRAM'S ROUNDING of digits. -/
theorem prog_round {w : List Int} (hw : Dig w) {top T n a b c hi : Nat} (ht : 2 ≤ top) (hl : top < w.length) (hz : ∀ k x, top < k → w[k]? = some x → x = 0) (hT : nl w = T * 2 ^ 78)
    (ea : (a : Int) = w.getD (top - 2) 0) (eb : (b : Int) = w.getD (top - 1) 0) (ec : (c : Int) = w.getD top 0) (h0 : c ≠ 0) (ehi : hi = c * 4294967296 + b) (hn : nb hi = 64 - n) (hn2 : n ≤ 31) :
    rung (sticky ((hi * 2 ^ n + a / 2 ^ (32 - n)) / 4) (decide (a % 2 ^ (32 - n) ≠ 0) || decide (lim (w.take (top - 2)) ≠ 0) || decide ((hi * 2 ^ n + a / 2 ^ (32 - n)) % 4 ≠ 0)))
      (-1152 + ((32 * (top - 2) + (34 - n) : Nat) : Int)) = rung T (-1074) := by
  have hf := first_words ht hl hz
  have hd : Dig (w.take (top - 2)) := fun x hx => hw x (List.mem_of_mem_take hx)
  have hv := hd.val
  rw [List.length_take, show min (top - 2) w.length = top - 2 by omega] at hv
  have ha := hw.at_ (top - 2)
  have hb := hw.at_ (top - 1)
  have hc := hw.at_ top
  have hwv := hw.val
  rw [← ea] at ha
  obtain ⟨r, er⟩ : ∃ r, r = nl (w.take (top - 2)) := ⟨_, rfl⟩
  rw [← er] at hv
  have hL : nl w = r + 2 ^ (32 * (top - 2)) * (hi * 4294967296 + a) := by
    apply Int.ofNat_inj.1
    rw [hwv.1, hf, ← hv.1, Int.natCast_add, Int.natCast_mul, ← pow32, Int.natCast_pow, ← ea, ← eb, ← ec]
    congr 2
    omega
  have hr : r < 2 ^ (32 * (top - 2)) := hv.2
  have pp := prog_parts (N := hi * 4294967296 + a) hr hn2
  have pm := prog_mag (hi := hi) hn2 (a := a) (by omega)
  have th := top_high (hi := hi) (by omega) hn hn2
  rw [pm.1, pm.2.1, ← hL] at pp
  have er0 : decide (lim (w.take (top - 2)) ≠ 0) = decide (r ≠ 0) := by rw [← hv.1]; exact decide_eq_decide.2 (by omega)
  rw [er0, ← pp.1, ← pp.2]
  refine prog_first hT ?_
  rw [pp.1]
  rw [show 2 ^ 54 = 18014398509481984 by decide, Nat.le_div_iff_mul_le (by decide)]
  exact Nat.le_trans (Nat.le_trans (by decide) th.1) (Nat.le_add_right _ _)

/-- Where all words but the two lowest are nought. -/
theorem low_words {w : List Int} (hw : Dig w) {top T : Nat} (ht : top < 2) (hl : 2 < w.length) (hz : ∀ k x, top < k → w[k]? = some x → x = 0) (hT : nl w = T * 2 ^ 78) : T = 0 := by
  have hf := first_words (Nat.le_refl 2) hl fun k x hk => hz k x (by omega)
  have h2 : w.getD 2 0 = 0 := hz 2 _ (by omega) (getD_some (by omega))
  have a0 := hw.at_ 0
  have a1 := hw.at_ 1
  have hv := hw.val.1
  rw [hf, h2] at hv
  simp only [Nat.sub_self, List.take_zero, lim, Int.pow_zero, Int.one_mul, Int.zero_add] at hv
  rw [hT] at hv
  rw [show (2 : Nat) - 1 = 1 by rfl] at hv
  omega

theorem take_step {w : List Int} (hw : Dig w) {k : Nat} (hk : k < w.length) : decide (lim (w.take (k + 1)) ≠ 0) = (decide (lim (w.take k) ≠ 0) || decide (w.getD k 0 ≠ 0)) := by
  have hd : Dig (w.take k) := fun x hx => hw x (List.mem_of_mem_take hx)
  have hb := lim_lt _ hd
  have ha := hw.at_ k
  have e : w.take (k + 1) = w.take k ++ [w.getD k 0] := by
    rw [List.take_add_one, List.getElem?_eq_getElem hk, List.getD_eq_getElem?_getD, List.getElem?_eq_getElem hk]; rfl
  have e2 : lim (w.take (k + 1)) = lim (w.take k) + 4294967296 ^ k * w.getD k 0 := by
    rw [e, lim_append, List.length_take, show min k w.length = k by omega]; simp [lim]
  rw [e2]
  have hP : (0 : Int) < 4294967296 ^ k := Int.pow_pos (by decide)
  generalize (4294967296 : Int) ^ k = P at *
  generalize lim (w.take k) = y at *
  generalize w.getD k 0 = x at *
  have hm : 0 ≤ P * x := Int.mul_nonneg (by omega) ha.1
  by_cases hx : x = 0
  · subst hx; simp
  · have hm2 : 0 < P * x := Int.mul_pos hP (by omega)
    rw [decide_eq_true hx, Bool.or_true]
    exact decide_eq_true (by omega)

end Go.Proofs.YtpddepehlinfnaaGreatDoor.FL
