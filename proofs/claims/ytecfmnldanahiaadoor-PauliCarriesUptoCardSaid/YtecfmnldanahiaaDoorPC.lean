/- Part of a claim: the bits of a number, counted as the library counts them. Nothing of a program stands here. -/
import Derived.Test.YtecfmnldanahiaaDoorEC
set_option linter.unusedSimpArgs false
set_option linter.unusedVariables false
namespace Go.Proofs.YtecfmnldanahiaaDoor.PC
open Go

theorem and_step (a b : Nat) : a &&& b = 2 * (a / 2 &&& b / 2) + (if a % 2 = 1 ∧ b % 2 = 1 then 1 else 0) := by
  have h1 : (a &&& b) / 2 = a / 2 &&& b / 2 := Nat.and_div_two
  have h2 : (a &&& b) % 2 = (if a % 2 = 1 ∧ b % 2 = 1 then 1 else 0) := by
    have h3 := Nat.testBit_and a b 0
    simp only [Nat.testBit_zero] at h3
    by_cases c : a % 2 = 1 ∧ b % 2 = 1
    · rw [if_pos c]
      rw [decide_eq_true c.1, decide_eq_true c.2] at h3
      exact of_decide_eq_true h3
    · rw [if_neg c]
      have h4 : (decide (a % 2 = 1) && decide (b % 2 = 1)) = false := by
        rw [← Bool.decide_and]; exact decide_eq_false c
      rw [h4] at h3
      have := of_decide_eq_false h3
      omega
  rw [← h1, ← h2]
  omega

/-- How many of the first n bits are 1. -/
def cnt : Nat → Nat → Nat
  | 0, _ => 0
  | n + 1, x => x % 2 + cnt n (x / 2)

theorem cnt_le : ∀ (n x : Nat), cnt n x ≤ n
  | 0, _ => Nat.le_refl _
  | n + 1, x => by
    unfold cnt
    have := cnt_le n (x / 2)
    omega
theorem cnt_add : ∀ (m n x : Nat), cnt (m + n) x = cnt m x + cnt n (x / 2 ^ m)
  | 0, n, x => by simp [cnt]
  | m + 1, n, x => by
    rw [show m + 1 + n = (m + n) + 1 by omega, cnt, cnt, cnt_add m n, Nat.pow_succ, Nat.mul_comm, Nat.div_div_eq_div_mul]
    omega
theorem cnt_mod : ∀ (m x k : Nat), cnt m (x % 2 ^ (m + k)) = cnt m x
  | 0, x, k => rfl
  | m + 1, x, k => by
    rw [cnt, cnt, show m + 1 + k = (m + k) + 1 by omega]
    have e1 : x % 2 ^ (m + k + 1) % 2 = x % 2 := by
      rw [Nat.pow_succ]; exact Nat.mod_mul_left_mod x (2 ^ (m + k)) 2
    have e2 : x % 2 ^ (m + k + 1) / 2 = x / 2 % 2 ^ (m + k) := by
      rw [Nat.pow_succ, Nat.mul_comm]; exact Nat.mod_mul_right_div_self x 2 (2 ^ (m + k))
    rw [e1, e2, cnt_mod m (x / 2) k]

theorem and_split (a b n : Nat) : a &&& b = 2 ^ n * (a / 2 ^ n &&& b / 2 ^ n) + (a % 2 ^ n &&& b % 2 ^ n) := by
  have h1 : (a &&& b) / 2 ^ n = a / 2 ^ n &&& b / 2 ^ n := Nat.and_div_two_pow
  have h2 : (a &&& b) % 2 ^ n = a % 2 ^ n &&& b % 2 ^ n := Nat.and_mod_two_pow
  rw [← h1, ← h2]
  exact (Nat.div_add_mod _ _).symm

/-- Bytes, the lowest first. -/
def enc : List Nat → Nat
  | [] => 0
  | b :: l => b + 256 * enc l
def Bytes (l : List Nat) : Prop := ∀ b ∈ l, b < 256

theorem Bytes.tail {b : Nat} {l : List Nat} (h : Bytes (b :: l)) : b < 256 ∧ Bytes l := ⟨h b List.mem_cons_self, fun x hx => h x (List.mem_cons_of_mem _ hx)⟩

/-- A mask of like bytes. -/
def mask (k : Nat) : Nat → Nat
  | 0 => 0
  | n + 1 => k + 256 * mask k n

theorem and_enc {k : Nat} (hk : k < 256) : ∀ {l : List Nat}, Bytes l → enc l &&& mask k l.length = enc (l.map (· &&& k))
  | [], _ => by simp [enc, mask]
  | b :: l, h => by
    obtain ⟨hb, hl⟩ := h.tail
    have e := and_split (enc (b :: l)) (mask k (b :: l).length) 8
    rw [show 2 ^ 8 = 256 by decide] at e
    rw [e]
    simp only [enc, mask, List.length_cons, List.map_cons]
    rw [show (b + 256 * enc l) / 256 = enc l by omega, show (k + 256 * mask k l.length) / 256 = mask k l.length by omega, show (b + 256 * enc l) % 256 = b by omega, show (k + 256 * mask k l.length) % 256 = k by omega, and_enc hk hl]
    omega

/-- Shifted by s, and masked so that nothing of the next byte is seen. -/
theorem shift_enc {k s : Nat} (hk : k < 256) (hs : s ≤ 8) (hmask : ∀ b, b < 256 → ∀ t, t < 256 → (((b / 2 ^ s) + 2 ^ (8 - s) * (t % 2 ^ s)) &&& k) = (b / 2 ^ s &&& k)) :
    ∀ {l : List Nat}, Bytes l → enc l / 2 ^ s &&& mask k l.length = enc (l.map fun b => b / 2 ^ s &&& k)
  | [], _ => by simp [enc, mask]
  | b :: l, h => by
    obtain ⟨hb, hl⟩ := h.tail
    have e := and_split (enc (b :: l) / 2 ^ s) (mask k (b :: l).length) 8
    rw [show 2 ^ 8 = 256 by decide] at e
    rw [e]
    simp only [enc, mask, List.length_cons, List.map_cons]
    have hp := Nat.two_pow_pos s
    have hps : 2 ^ s * 2 ^ (8 - s) = 256 := by rw [← Nat.pow_add, show s + (8 - s) = 8 by omega]
    have e1 : (b + 256 * enc l) / 2 ^ s / 256 = enc l / 2 ^ s := by
      rw [Nat.div_div_eq_div_mul, Nat.mul_comm (2 ^ s) 256, ← Nat.div_div_eq_div_mul, show (b + 256 * enc l) / 256 = enc l by omega]
    have e2 : (b + 256 * enc l) / 2 ^ s = b / 2 ^ s + 2 ^ (8 - s) * enc l := by
      rw [← hps, Nat.mul_assoc, Nat.add_mul_div_left _ _ hp]
    have e3 : (b + 256 * enc l) / 2 ^ s % 256 = b / 2 ^ s + 2 ^ (8 - s) * (enc l % 2 ^ s) := by
      rw [e2]
      have hq : b / 2 ^ s < 2 ^ (8 - s) := by rw [Nat.div_lt_iff_lt_mul hp, Nat.mul_comm, hps]; exact hb
      have hr : enc l % 2 ^ s < 2 ^ s := Nat.mod_lt _ hp
      have h256 : 256 = 2 ^ (8 - s) * 2 ^ s := by rw [Nat.mul_comm]; exact hps.symm
      rw [h256, Nat.add_comm, Nat.mod_mul, Nat.mul_add_mod, Nat.mod_eq_of_lt hq, Nat.mul_add_div (Nat.two_pow_pos _), Nat.div_eq_of_lt hq, Nat.add_zero]
    rw [e1, e3, show (k + 256 * mask k l.length) / 256 = mask k l.length by omega, show (k + 256 * mask k l.length) % 256 = k by omega, shift_enc hk hs hmask hl]
    have h4 : ((b / 2 ^ s) + 2 ^ (8 - s) * (enc l % 2 ^ s)) &&& k = (b / 2 ^ s &&& k) := by
      have := hmask b hb (enc l % 2 ^ s) (Nat.lt_of_lt_of_le (Nat.mod_lt _ hp) (by have : 2 ^ s ≤ 2 ^ 8 := Nat.pow_le_pow_right (by omega) hs; rw [show 2 ^ 8 = 256 by decide] at this; exact this))
      rwa [Nat.mod_mod] at this
    rw [h4]
    omega

theorem enc_add {f g : Nat → Nat} : ∀ (l : List Nat), enc (l.map f) + enc (l.map g) = enc (l.map fun b => f b + g b)
  | [] => rfl
  | b :: l => by
    have := enc_add (f := f) (g := g) l
    simp only [List.map_cons, enc]
    omega

def f1 (b : Nat) : Nat := (b / 2 &&& 0x55) + (b &&& 0x55)
def f2 (b : Nat) : Nat := (b / 4 &&& 0x33) + (b &&& 0x33)
def f3 (b : Nat) : Nat := (b / 16 + b) % 16

theorem m1 : ∀ b, b < 256 → ∀ t, t < 256 → (((b / 2 ^ 1) + 2 ^ (8 - 1) * (t % 2 ^ 1)) &&& 0x55) = (b / 2 ^ 1 &&& 0x55) := by
  intro b hb t ht
  have : ((List.range 256).all fun b => (List.range 2).all fun t => (((b / 2 ^ 1) + 2 ^ (8 - 1) * t) &&& 0x55) == (b / 2 ^ 1 &&& 0x55)) = true := by decide +kernel
  have h1 := List.all_eq_true.1 this b (List.mem_range.2 hb)
  have h2 := List.all_eq_true.1 h1 (t % 2 ^ 1) (List.mem_range.2 (by omega))
  exact eq_of_beq h2
theorem m2 : ∀ b, b < 256 → ∀ t, t < 256 → (((b / 2 ^ 2) + 2 ^ (8 - 2) * (t % 2 ^ 2)) &&& 0x33) = (b / 2 ^ 2 &&& 0x33) := by
  intro b hb t ht
  have : ((List.range 256).all fun b => (List.range 4).all fun t => (((b / 2 ^ 2) + 2 ^ (8 - 2) * t) &&& 0x33) == (b / 2 ^ 2 &&& 0x33)) = true := by decide +kernel
  have h1 := List.all_eq_true.1 this b (List.mem_range.2 hb)
  have h2 := List.all_eq_true.1 h1 (t % 2 ^ 2) (List.mem_range.2 (by omega))
  exact eq_of_beq h2

theorem small : ((List.range 256).all fun b => decide (f1 b < 256) && decide (f2 (f1 b) < 256) && decide (f2 (f1 b) / 16 ≤ 4) && decide (f2 (f1 b) % 16 ≤ 4) && (f3 (f2 (f1 b)) == cnt 8 b)) = true := by decide +kernel
theorem small_at {b : Nat} (h : b < 256) : f1 b < 256 ∧ f2 (f1 b) < 256 ∧ f2 (f1 b) / 16 ≤ 4 ∧ f2 (f1 b) % 16 ≤ 4 ∧ f3 (f2 (f1 b)) = cnt 8 b := by
  have := List.all_eq_true.1 small b (List.mem_range.2 h)
  simp only [Bool.and_eq_true, decide_eq_true_eq, beq_iff_eq] at this
  exact ⟨this.1.1.1.1, this.1.1.1.2, this.1.1.2, this.1.2, this.2⟩

theorem step1 {l : List Nat} (h : Bytes l) : (enc l / 2 &&& mask 0x55 l.length) + (enc l &&& mask 0x55 l.length) = enc (l.map f1) := by
  have e := shift_enc (k := 0x55) (s := 1) (by decide) (by decide) m1 h
  rw [Nat.pow_one] at e
  rw [e, and_enc (by decide) h, enc_add]
  rfl
theorem step2 {l : List Nat} (h : Bytes l) : (enc l / 4 &&& mask 0x33 l.length) + (enc l &&& mask 0x33 l.length) = enc (l.map f2) := by
  have e := shift_enc (k := 0x33) (s := 2) (by decide) (by decide) m2 h
  rw [show 2 ^ 2 = 4 by decide] at e
  rw [e, and_enc (by decide) h, enc_add]
  rfl
theorem step3 : ∀ {l : List Nat}, (∀ b ∈ l, b < 256 ∧ b / 16 ≤ 4 ∧ b % 16 ≤ 4) → (enc l / 16 + enc l) &&& mask 0x0f l.length = enc (l.map f3)
  | [], _ => by simp [enc, mask]
  | b :: l, h => by
    obtain ⟨h1, h2, h3⟩ := h b List.mem_cons_self
    have hl : ∀ b ∈ l, b < 256 ∧ b / 16 ≤ 4 ∧ b % 16 ≤ 4 := fun x hx => h x (List.mem_cons_of_mem _ hx)
    have ih := step3 hl
    have hlow : enc l % 16 ≤ 4 := by
      cases l with
      | nil => simp [enc]
      | cons c l =>
        have := (hl c List.mem_cons_self).2.2
        simp only [enc]
        omega
    have e := and_split (enc (b :: l) / 16 + enc (b :: l)) (mask 0x0f (b :: l).length) 8
    rw [show 2 ^ 8 = 256 by decide] at e
    rw [e]
    simp only [enc, mask, List.length_cons, List.map_cons]
    generalize enc l = E at *
    rw [show ((b + 256 * E) / 16 + (b + 256 * E)) / 256 = E / 16 + E by omega, show (15 + 256 * mask 15 l.length) / 256 = mask 15 l.length by omega, ih, show (15 + 256 * mask 15 l.length) % 256 = 2 ^ 4 - 1 by omega, Nat.and_two_pow_sub_one_eq_mod, show 2 ^ 4 = 16 by decide]
    unfold f3
    omega

theorem div_at {v r q k : Nat} (h : v = r + k * q) (hr : r < k) : v / k = q := by
  rw [h, Nat.add_mul_div_left _ _ (by omega), Nat.div_eq_of_lt hr, Nat.zero_add]
theorem mod_at {v r q k : Nat} (h : v = r + k * q) (hr : r < k) : v % k = r := by
  rw [h, Nat.add_mul_mod_self_left, Nat.mod_eq_of_lt hr]

theorem sum_bytes {a b c d e f g h : Nat} (ha : a ≤ 8) (hb : b ≤ 8) (hc : c ≤ 8) (hd : d ≤ 8) (he : e ≤ 8) (hf : f ≤ 8) (hg : g ≤ 8) (hh : h ≤ 8) {v v1 v2 v3 : Nat}
    (hv : v = a + 256 * (b + 256 * (c + 256 * (d + 256 * (e + 256 * (f + 256 * (g + 256 * h))))))) (h1 : v1 = v + v / 256) (h2 : v2 = v1 + v1 / 65536) (h3 : v3 = v2 + v2 / 4294967296) :
    v3 % 128 = a + b + c + d + e + f + g + h ∧ v3 < 18446744073709551616 ∧ v1 < 18446744073709551616 ∧ v2 < 18446744073709551616 := by
  rw [div_at hv (by omega)] at h1
  have k1 : v1 = (a + 257 * b + 256 * c) + 65536 * (c + 257 * d + 65792 * e + 16842752 * f + 4311744512 * g + 1103806595072 * h) := by
    rw [h1, hv]
    simp only [Nat.mul_add, ← Nat.mul_assoc, Nat.reduceMul]
    omega
  rw [div_at k1 (by omega)] at h2
  have k2 : v2 = (a + 257 * b + 65793 * c + 16843009 * d + 16843008 * e + 16842752 * f + 16777216 * g) + 4294967296 * (e + 257 * f + 65793 * g + 16843009 * h) := by
    rw [h2, k1]
    simp only [Nat.mul_add, ← Nat.mul_assoc, Nat.reduceMul]
    omega
  rw [div_at k2 (by omega)] at h3
  have k3 : v3 = (a + b + c + d + e + f + g + h) + 128 * ((2 * b + 514 * c + 131586 * d + 131586 * e + 131584 * f + 131072 * g) + (2 * f + 514 * g + 131586 * h) + 33554432 * (e + 257 * f + 65793 * g + 16843009 * h)) := by
    rw [h3, k2]
    simp only [Nat.mul_add, ← Nat.mul_assoc, Nat.reduceMul]
    omega
  refine ⟨mod_at k3 (by clear k1 k2 k3 h1 h2 h3 hv; omega), ?_, ?_, ?_⟩
  · rw [k3]; clear k1 k2 k3 h1 h2 h3 hv; omega
  · rw [k1]; clear k1 k2 k3 h1 h2 h3 hv; omega
  · rw [k2]; clear k1 k2 k3 h1 h2 h3 hv; omega

def bytesN : Nat → Nat → List Nat
  | 0, _ => []
  | n + 1, x => x % 256 :: bytesN n (x / 256)
theorem bytesN_len : ∀ (n x : Nat), (bytesN n x).length = n
  | 0, _ => rfl
  | n + 1, x => by simp [bytesN, bytesN_len n]
theorem bytesN_enc : ∀ (n x : Nat), enc (bytesN n x) = x % 256 ^ n
  | 0, x => by simp [bytesN, enc, Nat.mod_one]
  | n + 1, x => by
    rw [bytesN, enc, bytesN_enc n, Nat.pow_succ, Nat.mul_comm (256 ^ n), Nat.mod_mul]
theorem bytesN_ok : ∀ (n x : Nat), Bytes (bytesN n x)
  | 0, _ => fun b hb => by cases hb
  | n + 1, x => fun b hb => by
    rcases List.mem_cons.1 hb with rfl | hb
    · exact Nat.mod_lt _ (by decide)
    · exact bytesN_ok n _ b hb
theorem cnt_bytes : ∀ (n x : Nat), cnt (8 * n) x = ((bytesN n x).map (cnt 8)).sum
  | 0, x => rfl
  | n + 1, x => by
    rw [show 8 * (n + 1) = 8 + 8 * n by omega, cnt_add, bytesN, List.map_cons, List.sum_cons, cnt_bytes n, show 2 ^ 8 = 256 by decide]
    have m := cnt_mod 8 x 0
    rw [show 2 ^ (8 + 0) = 256 by decide] at m
    rw [m]

theorem enc_le {l : List Nat} (h : ∀ b ∈ l, b ≤ 68) : 255 * enc l ≤ 68 * (256 ^ l.length - 1) := by
  induction l with
  | nil => simp [enc]
  | cons b l ih =>
    have := ih fun x hx => h x (List.mem_cons_of_mem _ hx)
    have hb := h b List.mem_cons_self
    have hp : 0 < 256 ^ l.length := Nat.pow_pos (by decide)
    rw [List.length_cons, Nat.pow_succ, enc]
    generalize 256 ^ l.length = Q at *
    generalize enc l = E at *
    omega
theorem enc_lt {l : List Nat} (h : Bytes l) : enc l < 256 ^ l.length := by
  induction l with
  | nil => simp [enc]
  | cons b l ih =>
    obtain ⟨q1, q2⟩ := h.tail
    have := ih q2
    rw [List.length_cons, Nat.pow_succ, enc]
    generalize 256 ^ l.length = Q at *
    generalize enc l = E at *
    omega

theorem final {l : List Nat} (hlen : l.length = 8) {w v1 v2 v3 : Nat} (g4 : w = enc (l.map (cnt 8))) (h4 : v1 = w + w / 256) (h5 : v2 = v1 + v1 / 65536) (h6 : v3 = v2 + v2 / 4294967296) :
    v3 % 128 = (l.map (cnt 8)).sum ∧ v3 < 18446744073709551616 ∧ v1 < 18446744073709551616 ∧ v2 < 18446744073709551616 := by
  obtain ⟨a, l, rfl⟩ := List.exists_cons_of_length_eq_add_one hlen
  obtain ⟨b, l, rfl⟩ := List.exists_cons_of_length_eq_add_one (Nat.succ.inj hlen)
  obtain ⟨c, l, rfl⟩ := List.exists_cons_of_length_eq_add_one (Nat.succ.inj (Nat.succ.inj hlen))
  obtain ⟨d, l, rfl⟩ := List.exists_cons_of_length_eq_add_one (Nat.succ.inj (Nat.succ.inj (Nat.succ.inj hlen)))
  obtain ⟨e, l, rfl⟩ := List.exists_cons_of_length_eq_add_one (Nat.succ.inj (Nat.succ.inj (Nat.succ.inj (Nat.succ.inj hlen))))
  obtain ⟨f, l, rfl⟩ := List.exists_cons_of_length_eq_add_one (Nat.succ.inj (Nat.succ.inj (Nat.succ.inj (Nat.succ.inj (Nat.succ.inj hlen)))))
  obtain ⟨g, l, rfl⟩ := List.exists_cons_of_length_eq_add_one (Nat.succ.inj (Nat.succ.inj (Nat.succ.inj (Nat.succ.inj (Nat.succ.inj (Nat.succ.inj hlen))))))
  obtain ⟨i, l, rfl⟩ := List.exists_cons_of_length_eq_add_one (Nat.succ.inj (Nat.succ.inj (Nat.succ.inj (Nat.succ.inj (Nat.succ.inj (Nat.succ.inj (Nat.succ.inj hlen)))))))
  have hl : l = [] := by
    have : l.length = 0 := by simpa using hlen
    exact List.length_eq_zero_iff.1 this
  subst hl
  simp only [List.map_cons, List.map_nil, enc, Nat.mul_zero, Nat.add_zero] at g4
  have k := cnt_le 8
  have hs := sum_bytes (k a) (k b) (k c) (k d) (k e) (k f) (k g) (k i) g4 h4 h5 h6
  refine ⟨?_, hs.2⟩
  rw [hs.1]
  simp only [List.map_cons, List.map_nil, List.sum_cons, List.sum_nil, Nat.add_zero, Nat.add_assoc]

/-- The library's count. -/
theorem ones {x y z w v1 v2 v3 : Nat} (h : x < 18446744073709551616) (h1 : y = (x / 2 &&& 6148914691236517205) + (x &&& 6148914691236517205)) (h2 : z = (y / 4 &&& 3689348814741910323) + (y &&& 3689348814741910323)) (h3 : w = (z / 16 + z) &&& 1085102592571150095)
    (h4 : v1 = w + w / 256) (h5 : v2 = v1 + v1 / 65536) (h6 : v3 = v2 + v2 / 4294967296) : v3 % 128 = cnt 64 x ∧ y < 18446744073709551616 ∧ z < 18446744073709551616 ∧ z / 16 + z < 18446744073709551616 ∧ w < 18446744073709551616 ∧ v1 < 18446744073709551616 ∧ v2 < 18446744073709551616 ∧ v3 < 18446744073709551616 := by
  have hb := bytesN_ok 8 x
  have hx := bytesN_enc 8 x
  have hc := cnt_bytes 8 x
  have hlen := bytesN_len 8 x
  rw [show 256 ^ 8 = 18446744073709551616 by decide, Nat.mod_eq_of_lt h] at hx
  rw [show 8 * 8 = 64 by rfl] at hc
  rw [hc]
  generalize bytesN 8 x = l at *
  have g1 := step1 hb
  rw [hlen, hx, show mask 0x55 8 = 6148914691236517205 by decide +kernel, ← h1] at g1
  have hb1 : Bytes (l.map f1) := by
    intro b hbm
    obtain ⟨c, hc, rfl⟩ := List.mem_map.1 hbm
    exact (small_at (hb c hc)).1
  have g2 := step2 hb1
  rw [List.length_map, hlen, ← g1, show mask 0x33 8 = 3689348814741910323 by decide +kernel, ← h2, List.map_map] at g2
  have hb2 : ∀ b ∈ l.map (f2 ∘ f1), b < 256 ∧ b / 16 ≤ 4 ∧ b % 16 ≤ 4 := by
    intro b hbm
    obtain ⟨c, hc, rfl⟩ := List.mem_map.1 hbm
    have := small_at (hb c hc)
    exact ⟨this.2.1, this.2.2.1, this.2.2.2.1⟩
  have g3 := step3 hb2
  rw [List.length_map, hlen, ← g2, show mask 0x0f 8 = 1085102592571150095 by decide +kernel, ← h3, List.map_map] at g3
  have g4 : w = enc (l.map (cnt 8)) := by
    have hm : l.map (f3 ∘ f2 ∘ f1) = l.map (cnt 8) := List.map_congr_left fun b hbm => (small_at (hb b hbm)).2.2.2.2
    rw [g3, hm]
  have p1 := enc_lt hb1
  rw [← g1, List.length_map, hlen, show 256 ^ 8 = 18446744073709551616 by decide] at p1
  have p2 := enc_lt (l := l.map (f2 ∘ f1)) fun b hbm => (hb2 b hbm).1
  rw [← g2, List.length_map, hlen, show 256 ^ 8 = 18446744073709551616 by decide] at p2
  have p3 := enc_le (l := l.map (f2 ∘ f1)) fun b hbm => by have := hb2 b hbm; omega
  rw [← g2, List.length_map, hlen, show 256 ^ 8 = 18446744073709551616 by decide] at p3
  have hzz : z / 16 + z < 18446744073709551616 := by clear g1 g2 g3 g4 h1 h2 h3 h4 h5 h6; omega
  have hw : w < 18446744073709551616 := by rw [h3]; exact Nat.lt_of_le_of_lt Nat.and_le_right (by decide)
  have hs := final hlen g4 h4 h5 h6
  exact ⟨hs.1, p1, p2, hzz, hw, hs.2.2.1, hs.2.2.2, hs.2.1⟩

end Go.Proofs.YtecfmnldanahiaaDoor.PC
