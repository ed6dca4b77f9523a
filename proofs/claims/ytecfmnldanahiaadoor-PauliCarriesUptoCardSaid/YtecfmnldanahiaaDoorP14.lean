/- Part of a claim: Pauli strings: a group; texts there and back. -/
import Derived.Test.YtecfmnldanahiaaDoorP13
set_option linter.unusedSimpArgs false
set_option linter.unusedVariables false
namespace Go.Proofs.YtecfmnldanahiaaDoor.B
open Go Go.RowKit Go.Proofs.YtecfmnldanahiaaDoor.E Go.Proofs.YtecfmnldanahiaaDoor.PC

def cdB (x z : Nat) : Nat := if x = 0 then (if z = 0 then 0 else 3) else (if z = 0 then 1 else 2)
def xrB (a b : Nat) : Nat := if a = b then 0 else 1
theorem cd_bits (x z q : Nat) : cd x z q = cdB (bt x q) (bt z q) := rfl
theorem cd_xor (x z x' z' q : Nat) : cd (x ^^^ x') (z ^^^ z') q = cdB (xrB (bt x q) (bt x' q)) (xrB (bt z q) (bt z' q)) := by
  rw [cd_bits, bt_xor, bt_xor]; rfl

def bits : List Nat := [0, 1]
theorem mem_bits (x q : Nat) : bt x q ∈ bits := by
  have := bt_lt x q
  simp only [bits, List.mem_cons, List.not_mem_nil, or_false]; omega

theorem asc_all : ∀ a ∈ bits, ∀ b ∈ bits, ∀ c ∈ bits, ∀ d ∈ bits, ∀ e ∈ bits, ∀ f ∈ bits,
    (oneN (cdB a b) (cdB c d) + oneN (cdB (xrB a c) (xrB b d)) (cdB e f)) % 4 = (oneN (cdB c d) (cdB e f) + oneN (cdB a b) (cdB (xrB c e) (xrB d f))) % 4 := by decide
theorem ant_all : ∀ a ∈ bits, ∀ b ∈ bits, ∀ c ∈ bits, ∀ d ∈ bits, (oneN (cdB a b) (cdB c d) + oneN (cdB c d) (cdB a b)) % 4 = 0 := by decide
theorem self_all : ∀ a ∈ bits, ∀ b ∈ bits, oneN (cdB a b) (cdB a b) = 0 := by decide

theorem sum_mod {g h : Nat → Nat} (e : ∀ q, g q % 4 = h q % 4) : ∀ k, sumTo g k % 4 = sumTo h k % 4
  | 0 => rfl
  | k + 1 => by
    rw [sumTo, sumTo]
    have := sum_mod e k
    have := e k
    omega

theorem phs_assoc (xa za xb zb xc zc : Nat) : (phs xa za xb zb + phs (xa ^^^ xb) (za ^^^ zb) xc zc) % 4 = (phs xb zb xc zc + phs xa za (xb ^^^ xc) (zb ^^^ zc)) % 4 := by
  unfold phs
  rw [← sumTo_add, ← sumTo_add]
  refine sum_mod (fun q => ?_) 64
  unfold sg
  rw [cd_xor, cd_xor, cd_bits, cd_bits, cd_bits]
  exact asc_all _ (mem_bits _ _) _ (mem_bits _ _) _ (mem_bits _ _) _ (mem_bits _ _) _ (mem_bits _ _) _ (mem_bits _ _)
theorem phs_anti (xa za xb zb : Nat) : (phs xa za xb zb + phs xb zb xa za) % 4 = 0 := by
  unfold phs
  rw [← sumTo_add]
  have := sum_mod (g := fun q => sg xa za xb zb q + sg xb zb xa za q) (h := fun _ => 0) (fun q => by
    unfold sg
    rw [cd_bits, cd_bits]
    exact ant_all _ (mem_bits _ _) _ (mem_bits _ _) _ (mem_bits _ _) _ (mem_bits _ _)) 64
  rw [this, sum_none _ (fun _ => rfl)]
theorem phs_self (x z : Nat) : phs x z x z = 0 := by
  unfold phs
  refine sum_none _ (fun q => ?_) 64
  unfold sg
  rw [cd_bits]
  exact self_all _ (mem_bits _ _) _ (mem_bits _ _)

/-! ### Texts there and back -/

theorem bt_pow (k q : Nat) : bt (2 ^ k) q = if q = k then 1 else 0 := by
  split
  · rename_i h; subst h; rw [bt_one, Nat.testBit_two_pow_self]
  · rename_i h; rw [bt_zero, Nat.testBit_two_pow_of_ne (fun e => h e.symm)]
theorem rng_getD {n k : Nat} (h : k < n) : (List.range n).getD k 0 = k := by
  rw [List.getD_eq_getElem?_getD, List.getElem?_range h]; rfl
theorem spX_bits {cs : List UInt8} {n : Nat} (q : Nat) : ∀ k, k ≤ n → bt (spX cs (List.range n) k) q = if q < k ∧ (ix (cs.getD q 0) = 1 ∨ ix (cs.getD q 0) = 2) then 1 else 0
  | 0, _ => by rw [if_neg (by omega)]; unfold spX bt; simp
  | k + 1, hk => by
    have ih := spX_bits (cs := cs) (n := n) q k (by omega)
    unfold spX
    rw [rng_getD (by omega)]
    split
    · rename_i c
      rw [bt_or, ih, bt_pow]
      by_cases hq : q = k
      · subst hq; rw [if_pos (.inr (by rw [if_pos rfl])), if_pos ⟨by omega, c⟩]
      · by_cases h2 : q < k ∧ (ix (cs.getD q 0) = 1 ∨ ix (cs.getD q 0) = 2)
        · rw [if_pos (.inl (by rw [if_pos h2])), if_pos ⟨by omega, h2.2⟩]
        · rw [if_neg (by rw [if_neg h2, if_neg hq]; simp), if_neg (fun h => h2 ⟨by omega, h.2⟩)]
    · rename_i c
      rw [ih]
      by_cases hq : q = k
      · subst hq; rw [if_neg (by omega), if_neg (fun h => c h.2)]
      · by_cases h2 : q < k ∧ (ix (cs.getD q 0) = 1 ∨ ix (cs.getD q 0) = 2)
        · rw [if_pos h2, if_pos ⟨by omega, h2.2⟩]
        · rw [if_neg h2, if_neg (fun h => h2 ⟨by omega, h.2⟩)]
theorem spZ_bits {cs : List UInt8} {n : Nat} (q : Nat) : ∀ k, k ≤ n → bt (spZ cs (List.range n) k) q = if q < k ∧ 2 ≤ ix (cs.getD q 0) then 1 else 0
  | 0, _ => by rw [if_neg (by omega)]; unfold spZ bt; simp
  | k + 1, hk => by
    have ih := spZ_bits (cs := cs) (n := n) q k (by omega)
    unfold spZ
    rw [rng_getD (by omega)]
    split
    · rename_i c
      rw [bt_or, ih, bt_pow]
      by_cases hq : q = k
      · subst hq; rw [if_pos (.inr (by rw [if_pos rfl])), if_pos ⟨by omega, c⟩]
      · by_cases h2 : q < k ∧ 2 ≤ ix (cs.getD q 0)
        · rw [if_pos (.inl (by rw [if_pos h2])), if_pos ⟨by omega, h2.2⟩]
        · rw [if_neg (by rw [if_neg h2, if_neg hq]; simp), if_neg (fun h => h2 ⟨by omega, h.2⟩)]
    · rename_i c
      rw [ih]
      by_cases hq : q = k
      · subst hq; rw [if_neg (by omega), if_neg (fun h => c h.2)]
      · by_cases h2 : q < k ∧ 2 ≤ ix (cs.getD q 0)
        · rw [if_pos h2, if_pos ⟨by omega, h2.2⟩]
        · rw [if_neg h2, if_neg (fun h => h2 ⟨by omega, h.2⟩)]

theorem ix_let {c : Nat} (h : c < 4) : ix (let4 c) = c := by
  obtain rfl | rfl | rfl | rfl : c = 0 ∨ c = 1 ∨ c = 2 ∨ c = 3 := by omega
  all_goals rfl
theorem lets_at {x z n q : Nat} (h : q < n) : (lets x z n).getD q 0 = let4 (cd x z q) := by
  unfold lets
  rw [List.getD_eq_getElem?_getD, List.getElem?_map, List.getElem?_range h]; rfl
theorem back_x {x z n : Nat} (hx : x < 2 ^ n) : spX (lets x z n) (List.range n) n = x := by
  refine bt_ext fun q => ?_
  rw [spX_bits q n (Nat.le_refl _)]
  by_cases hq : q < n
  · rw [lets_at hq, ix_let (cd_lt _ _ _)]
    have h1 := bt_lt x q
    unfold cd
    split <;> split <;> simp_all <;> omega
  · rw [if_neg (by omega)]
    exact (bt_zero.2 (Nat.testBit_lt_two_pow (Nat.lt_of_lt_of_le hx (Nat.pow_le_pow_right (by omega) (by omega))))).symm
theorem back_z {x z n : Nat} (hz : z < 2 ^ n) : spZ (lets x z n) (List.range n) n = z := by
  refine bt_ext fun q => ?_
  rw [spZ_bits q n (Nat.le_refl _)]
  by_cases hq : q < n
  · rw [lets_at hq, ix_let (cd_lt _ _ _)]
    have h1 := bt_lt z q
    unfold cd
    split <;> split <;> simp_all <;> omega
  · rw [if_neg (by omega)]
    exact (bt_zero.2 (Nat.testBit_lt_two_pow (Nat.lt_of_lt_of_le hz (Nat.pow_le_pow_right (by omega) (by omega))))).symm

theorem drop_nil : ∀ {r : List UInt8}, r.dropWhile isL = [] ↔ ∀ c ∈ r, isL c = true
  | [] => by simp
  | a :: r => by
    rw [List.dropWhile_cons]
    split
    · rename_i h
      rw [drop_nil]
      exact ⟨fun k c hc => by rcases List.mem_cons.1 hc with rfl | hc; exact h; exact k c hc, fun k c hc => k c (List.mem_cons_of_mem _ hc)⟩
    · rename_i h
      exact ⟨fun k => (by cases k), fun k => absurd (k a (List.mem_cons_self ..)) h⟩
theorem take_in : ∀ {r : List UInt8} {c : UInt8}, c ∈ r.takeWhile isL → isL c = true
  | [], c, h => by simp at h
  | a :: r, c, h => by
    rw [List.takeWhile_cons] at h
    split at h
    · rename_i k
      rcases List.mem_cons.1 h with rfl | h
      · exact k
      · exact take_in h
    · cases h
theorem trim_nil {r : List UInt8} : trimL (trimR r) = [] ↔ ∀ c ∈ r, isL c = true := by
  unfold trimL
  rw [drop_nil]
  unfold trimR
  constructor
  · intro h c hc
    have hm : c ∈ r.reverse := List.mem_reverse.2 hc
    rw [← List.takeWhile_append_dropWhile (p := isL) (l := r.reverse)] at hm
    rcases List.mem_append.1 hm with hm | hm
    · exact take_in hm
    · exact h c (List.mem_reverse.2 hm)
  · intro h c hc
    exact h c (List.mem_reverse.1 ((List.dropWhile_sublist _).subset (List.mem_reverse.1 hc)))
theorem lets_all (x z n : Nat) : ∀ c ∈ lets x z n, isL c = true := by
  intro c hc
  unfold lets at hc
  obtain ⟨q, _, rfl⟩ := List.mem_map.1 hc
  have := cd_lt x z q
  obtain h | h | h | h : cd x z q = 0 ∨ cd x z q = 1 ∨ cd x z q = 2 ∨ cd x z q = 3 := by omega
  all_goals rw [h]; rfl

theorem back_txt {n x z f : Nat} (hn : n ≤ 64) (hx : x < 2 ^ n) (hz : z < 2 ^ n) (hf : f ≤ 3) : parA (txt n x z f) = .tup [pl n x z f, .int .i64 0] := by
  have hl := lets_all x z n
  have hr : rest (txt n x z f) f = lets x z n := by unfold rest txt; simp
  have hok : okP (txt n x z f) f := ⟨List.prefix_append _ _, by rw [hr]; exact trim_nil.2 hl, by rw [hr, lets_len]; exact hn⟩
  have hgot : gotP (txt n x z f) f = .tup [pl n x z f, .int .i64 0] := by
    unfold gotP
    rw [hr, lets_len, back_x hx, back_z hz]
  have hno : ∀ i, i < f → ¬ okP (txt n x z f) i := by
    intro i hi h
    obtain ⟨h1, h2, _⟩ := h
    rw [trim_nil] at h2
    obtain rfl | rfl | rfl : f = 1 ∨ f = 2 ∨ f = 3 := by omega
    · obtain rfl : i = 0 := by omega
      exact absurd (h2 105 (by simp [rest, txt, sgT])) (by decide)
    · obtain rfl | rfl : i = 0 ∨ i = 1 := by omega
      all_goals simp [txt, sgT] at h1
    · obtain rfl | rfl | rfl : i = 0 ∨ i = 1 ∨ i = 2 := by omega
      · simp [txt, sgT] at h1
      · simp [txt, sgT] at h1
      · exact absurd (h2 105 (by simp [rest, txt, sgT])) (by decide)
  unfold parA parR parR parR parR
  obtain rfl | rfl | rfl | rfl : f = 0 ∨ f = 1 ∨ f = 2 ∨ f = 3 := by omega
  · rw [if_pos hok]; exact hgot
  · rw [if_neg (hno 0 (by omega)), if_pos hok]; exact hgot
  · rw [if_neg (hno 0 (by omega)), if_neg (hno 1 (by omega)), if_pos hok]; exact hgot
  · rw [if_neg (hno 0 (by omega)), if_neg (hno 1 (by omega)), if_neg (hno 2 (by omega)), if_pos hok]; exact hgot

end Go.Proofs.YtecfmnldanahiaaDoor.B
