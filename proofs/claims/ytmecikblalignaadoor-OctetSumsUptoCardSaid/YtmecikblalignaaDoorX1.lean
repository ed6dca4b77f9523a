/- Part of a claim: bytes in digits, and back: plain. -/
import Derived.Test.YtmecikblalignaaDoorBB
import Derived.Laws.RangeAny
set_option linter.unusedSimpArgs false
set_option linter.unusedVariables false
namespace Go.Proofs.YtmecikblalignaaDoor.B
open Go Go.RowKit Go.Proofs.YtmecikblalignaaDoor.E

/-- The digits. -/
def hexd : List UInt8 := [48, 49, 50, 51, 52, 53, 54, 55, 56, 57, 97, 98, 99, 100, 101, 102]
def hx (n : Nat) : UInt8 := hexd.getD n 0
/-- A digit's value; 16: it is none. -/
def dg (c : UInt8) : Nat := if 48 ≤ c.toNat ∧ c.toNat ≤ 57 then c.toNat - 48 else if 97 ≤ c.toNat ∧ c.toNat ≤ 102 then c.toNat - 87 else 16
theorem dg_le (c : UInt8) : dg c ≤ 16 := by unfold dg; split <;> (try split) <;> omega
theorem dg_low {c : UInt8} (h : dg c < 16) : c.toNat < 128 := by unfold dg at h; split at h <;> (try split at h) <;> omega
def hexT : List UInt8 → List UInt8
  | [] => []
  | c :: r => hx (c.toNat / 16) :: hx (c.toNat % 16) :: hexT r
theorem hexT_append : ∀ a b, hexT (a ++ b) = hexT a ++ hexT b
  | [], _ => rfl
  | c :: r, b => by rw [List.cons_append, hexT, hexT, hexT_append r b]; rfl
theorem hexT_len : ∀ b, (hexT b).length = 2 * b.length
  | [] => rfl
  | c :: r => by rw [hexT, List.length_cons, List.length_cons, List.length_cons, hexT_len r]; omega

/-- What the first m pairs of digits say. -/
def byt (s : List UInt8) (j : Nat) : UInt8 := UInt8.ofNat (16 * dg (s.getD (2 * j) 0) + dg (s.getD (2 * j + 1) 0))
def fu (s : List UInt8) (m : Nat) : List UInt8 := (List.range m).map (byt s)
theorem fu_succ (s : List UInt8) (m : Nat) : fu s (m + 1) = fu s m ++ [byt s m] := by unfold fu; rw [List.range_succ, List.map_append]; rfl
theorem fu_len (s : List UInt8) (m : Nat) : (fu s m).length = m := by simp [fu]
/-- Are all letters digits, and in pairs? -/
def okH (s : List UInt8) : Bool := s.length % 2 == 0 && s.all fun c => decide (dg c < 16)

theorem dg_hx : ∀ n, n < 16 → dg (hx n) = n := by decide
theorem hx_pair (c : UInt8) : UInt8.ofNat (16 * dg (hx (c.toNat / 16)) + dg (hx (c.toNat % 16))) = c := by
  have := c.toNat_lt
  rw [dg_hx _ (by omega), dg_hx _ (by omega), show 16 * (c.toNat / 16) + c.toNat % 16 = c.toNat by omega]
  simp
theorem ok_hex : ∀ b, okH (hexT b) = true := by
  intro b
  unfold okH
  rw [hexT_len, show 2 * b.length % 2 = 0 by omega]
  simp only [beq_self_eq_true, Bool.true_and, List.all_eq_true, decide_eq_true_eq]
  induction b with
  | nil => intro c hc; cases hc
  | cons d r ih =>
    intro c hc
    have := d.toNat_lt
    rw [hexT] at hc
    rcases List.mem_cons.1 hc with rfl | hc
    · rw [dg_hx _ (by omega)]; omega
    rcases List.mem_cons.1 hc with rfl | hc
    · rw [dg_hx _ (by omega)]; omega
    · exact ih c hc
theorem fu_hex : ∀ b : List UInt8, fu (hexT b) b.length = b
  | [] => rfl
  | c :: r => by
    have ih := fu_hex r
    unfold fu at ih ⊢
    rw [List.length_cons, List.range_succ_eq_map, List.map_cons, List.map_map]
    have e1 : byt (hexT (c :: r)) 0 = c := by unfold byt; rw [hexT]; exact hx_pair c
    have e2 : (byt (hexT (c :: r)) ∘ Nat.succ) = byt (hexT r) := by
      funext j
      show byt (hexT (c :: r)) (j + 1) = _
      unfold byt
      rw [hexT, show 2 * (j + 1) = 2 * j + 1 + 1 by omega, show 2 * j + 1 + 1 + 1 = (2 * j + 1) + 1 + 1 by omega]
      rfl
    rw [e1, e2, ih]

/-! ### Runes -/

theorem decode_low {s : List UInt8} {i : Nat} {c : UInt8} (h : s[i]? = some c) (hc : c.toNat < 128) : decodeA s i = (c.toNat, 1) := by
  have hl := (List.getElem?_eq_some_iff.1 h).1
  have he := (List.getElem?_eq_some_iff.1 h).2
  have := decode_ascii ⟨⟨s⟩⟩ i hl (by show (s[i]).toNat < 128; rw [he]; exact hc)
  unfold decodeA
  rw [this]
  show ((s[i]).toNat, 1) = _
  rw [he]
theorem decode_hi {s : List UInt8} {i : Nat} {c : UInt8} (h : s[i]? = some c) (hc : 128 ≤ c.toNat) : 128 ≤ (decodeA s i).1 := by
  have hl := (List.getElem?_eq_some_iff.1 h).1
  have he := (List.getElem?_eq_some_iff.1 h).2
  exact (decode_high ⟨⟨s⟩⟩ i hl (by show 128 ≤ (s[i]).toNat; rw [he]; exact hc)).1
theorem decode_ok (s : List UInt8) (i : Nat) : (decodeA s i).1 = 65533 ∨ Utf8.valid ((decodeA s i).1 : Int) = true := by
  unfold decodeA
  have hb : ∀ k, ((⟨⟨s⟩⟩ : ByteArray).get! (i + k)).toNat < 256 := fun k => ((⟨⟨s⟩⟩ : ByteArray).get! (i + k)).toNat_lt
  have h0 := hb 0; have h1 := hb 1; have h2 := hb 2; have h3 := hb 3
  simp only [Utf8.decode]
  repeat' split
  all_goals simp_all [Utf8.runeError, Utf8.valid]
  all_goals omega

theorem last_hi (r : Nat) : 128 ≤ (UInt8.ofNat (128 + r % 64)).toNat := by
  have hm : r % 64 < 64 := Nat.mod_lt _ (by decide)
  rw [UInt8.toNat_ofNat_of_lt' (by show _ < 256; omega)]; omega
/-- The last byte of a rune beyond 127. -/
theorem encode_last {r : Nat} (h : 128 ≤ r) (hv : Utf8.valid (r : Int) = true) : ∃ (pre : List UInt8) (c : UInt8), (Utf8.encode (r : Int)).data.toList = pre ++ [c] ∧ 128 ≤ c.toNat ∧ 1 ≤ pre.length ∧ pre.length ≤ 3 := by
  have hl := last_hi r
  have hn : ¬ r < 128 := by omega
  unfold Utf8.encode
  simp only [hv, if_true, Int.toNat_natCast, hn, if_false]
  generalize UInt8.ofNat (128 + r % 64) = c at *
  split
  · exact ⟨[_], c, rfl, hl, by simp, by simp⟩
  split
  · exact ⟨[_, _], c, rfl, hl, by simp, by simp⟩
  · exact ⟨[_, _, _], c, rfl, hl, by simp, by simp⟩

end Go.Proofs.YtmecikblalignaaDoor.B
