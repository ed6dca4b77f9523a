/- Part of a claim: Pauli strings through gates: plain: what comes out, site by site; products go through; the way back. -/
import Derived.Test.YtecfmnldanahiaaDoorP22
set_option linter.unusedSimpArgs false
set_option linter.unusedVariables false
namespace Go.Proofs.YtecfmnldanahiaaDoor.B
open Go Go.RowKit Go.Proofs.YtecfmnldanahiaaDoor.E Go.Proofs.YtecfmnldanahiaaDoor.PC

def bX (c : Nat) : Nat := if c = 1 ∨ c = 2 then 1 else 0
def bZ (c : Nat) : Nat := if 2 ≤ c then 1 else 0
/-- A letter times a letter. -/
def xrC (c d : Nat) : Nat := cdB (xrB (bX c) (bX d)) (xrB (bZ c) (bZ d))
theorem bX_cd (x z q : Nat) : bX (cd x z q) = bt x q := by
  have := bt_lt x q
  unfold bX cd
  by_cases h1 : bt x q = 0 <;> by_cases h2 : bt z q = 0 <;> simp [h1, h2] <;> omega
theorem bZ_cd (x z q : Nat) : bZ (cd x z q) = bt z q := by
  have := bt_lt z q
  unfold bZ cd
  by_cases h1 : bt x q = 0 <;> by_cases h2 : bt z q = 0 <;> simp [h1, h2] <;> omega
theorem cd_xr (x z x' z' q : Nat) : cd (x ^^^ x') (z ^^^ z') q = xrC (cd x z q) (cd x' z' q) := by
  unfold xrC
  rw [bX_cd, bX_cd, bZ_cd, bZ_cd, cd_xor]
theorem cd_ext {x z x' z' : Nat} (h : ∀ q, cd x z q = cd x' z' q) : x = x' ∧ z = z' :=
  ⟨bt_ext fun q => by rw [← bX_cd x z q, h, bX_cd], bt_ext fun q => by rw [← bZ_cd x z q, h, bZ_cd]⟩

/-- The letter at a qubit. -/
def cdo (o : Nat × Nat × Nat) (q : Nat) : Nat := cd o.1 o.2.1 q
theorem cdo_mul (o s : Nat × Nat × Nat) (q : Nat) : cdo (mulT o s) q = xrC (cdo o q) (cdo s q) := cd_xr _ _ _ _ _

/-! ### The sum of phases: at the gate's qubits, and elsewhere -/

theorem sum_split (g : Nat → Nat) : ∀ ns : List Nat, ns.Nodup → (∀ q ∈ ns, q < 64) → sumTo g 64 = sumTo (fun i => if i ∈ ns then 0 else g i) 64 + (ns.map g).sum
  | [], _, _ => by simp
  | q :: r, hn, hq => by
    have hn' := List.nodup_cons.1 hn
    have ih := sum_split g r hn'.2 fun x hx => hq x (List.mem_cons_of_mem _ hx)
    have h2 := sumTo_at (g := fun i => if i ∈ r then 0 else g i) (h := fun i => if i ∈ q :: r then 0 else g i) (t := q) (a := g q) (fun i hi => by simp [List.mem_cons, hi]) (by simp [hn'.1]) 64
    rw [if_pos (hq q (List.mem_cons_self ..))] at h2
    rw [ih, h2, List.map_cons, List.sum_cons]
    omega

/-! ### Images, letter by letter -/

def imC (k j t : Nat) : Nat := (ix ((imt k j).getD t 73)).toNat
def imS (k j : Nat) : Nat := if imc k j = 45 then 2 else 0

theorem ix_cases (c : UInt8) (h : isL c = true) : ix c = 0 ∨ ix c = 1 ∨ ix c = 2 ∨ ix c = 3 := by
  unfold isL at h
  simp only [Bool.or_eq_true, beq_iff_eq] at h
  rcases h with ((h | h) | h) | h
  all_goals subst h; decide
theorem spr1 {c : UInt8} (hc : isL c = true) (q i : Nat) : cd (spX [c] [q] 1) (spZ [c] [q] 1) i = if i = q then (ix c).toNat else 0 := by
  have e1 : spX [c] [q] 1 = if ix c = 1 ∨ ix c = 2 then 0 ||| 2 ^ q else 0 := rfl
  have e2 : spZ [c] [q] 1 = if 2 ≤ ix c then 0 ||| 2 ^ q else 0 := rfl
  rw [e1, e2]
  have b0 : ∀ i, bt 0 i = 0 := fun i => by unfold bt; simp
  unfold cd
  rcases ix_cases c hc with h | h | h | h <;> rw [h] <;> by_cases hi : i = q <;> simp [hi, bt_pow, b0]
theorem spr2 {c d : UInt8} (hc : isL c = true) (hd : isL d = true) {q r : Nat} (hqr : q ≠ r) (i : Nat) : cd (spX [c, d] [q, r] 2) (spZ [c, d] [q, r] 2) i = if i = q then (ix c).toNat else if i = r then (ix d).toNat else 0 := by
  have e1 : spX [c, d] [q, r] 2 = if ix d = 1 ∨ ix d = 2 then (if ix c = 1 ∨ ix c = 2 then 0 ||| 2 ^ q else 0) ||| 2 ^ r else (if ix c = 1 ∨ ix c = 2 then 0 ||| 2 ^ q else 0) := rfl
  have e2 : spZ [c, d] [q, r] 2 = if 2 ≤ ix d then (if 2 ≤ ix c then 0 ||| 2 ^ q else 0) ||| 2 ^ r else (if 2 ≤ ix c then 0 ||| 2 ^ q else 0) := rfl
  rw [e1, e2]
  have b0 : ∀ i, bt 0 i = 0 := fun i => by unfold bt; simp
  have hrq : ¬ r = q := fun h => hqr h.symm
  unfold cd
  rcases ix_cases c hc with h | h | h | h <;> rcases ix_cases d hd with h' | h' | h' | h' <;> rw [h, h'] <;> by_cases hi : i = q <;> by_cases hi2 : i = r <;> simp [hi, hi2, bt_or, bt_pow, b0, hqr, hrq] <;> simp_all

/-- The gate's qubits: one, or two that differ. -/
def Pl (k : Nat) (ns : List Nat) : Prop := ns.length = ar k ∧ ns.Nodup ∧ ∀ q ∈ ns, q < 64

theorem im_ok : ((List.range 17).all fun i => (List.range (2 * ar (i + 1))).all fun j => (imt (i + 1) j).length == ar (i + 1) && (imt (i + 1) j).all isL) = true := by decide
theorem im_at {k j : Nat} (h1 : 1 ≤ k) (h2 : k ≤ 17) (hj : j < 2 * ar k) : (imt k j).length = ar k ∧ ∀ c ∈ imt k j, isL c = true := by
  have := List.all_eq_true.1 im_ok (k - 1) (List.mem_range.2 (by omega))
  simp only [show k - 1 + 1 = k by omega] at this
  have h3 := List.all_eq_true.1 this j (List.mem_range.2 hj)
  rw [Bool.and_eq_true, List.all_eq_true] at h3
  exact ⟨by simpa using h3.1, h3.2⟩

/-- The letters of an image on the gate's qubits: at the first, at the second, elsewhere. -/
theorem spr_at {k j : Nat} {ns : List Nat} (h1 : 1 ≤ k) (h2 : k ≤ 17) (hj : j < 2 * ar k) (hp : Pl k ns) :
    (∀ i, i ∉ ns → cdo (sprT k j ns) i = 0) ∧ (∀ q, ns[0]? = some q → cdo (sprT k j ns) q = imC k j 0) ∧ (∀ r, ns[1]? = some r → cdo (sprT k j ns) r = imC k j 1) ∧ (ns.length = 1 → imC k j 1 = 0) := by
  obtain ⟨hl, hL⟩ := im_at h1 h2 hj
  obtain ⟨pl, pn, pq⟩ := hp
  have ha : ar k = 1 ∨ ar k = 2 := by unfold ar; split <;> simp
  unfold sprT cdo imC
  simp only
  generalize imt k j = cs at *
  rcases ha with ha | ha
  · rw [ha] at hl pl
    match cs, hl, ns, pl with
    | [c], _, [q], _ =>
      have hs := spr1 (hL c (by simp)) q
      refine ⟨fun i hi => ?_, fun x hx => ?_, fun r hr => ?_, fun _ => rfl⟩
      · show cd (spX [c] [q] 1) (spZ [c] [q] 1) i = 0
        rw [hs, if_neg (by simpa using hi)]
      · cases hx
        show cd (spX [c] [q] 1) (spZ [c] [q] 1) q = _
        rw [hs, if_pos rfl]; rfl
      · cases hr
  · rw [ha] at hl pl
    match cs, hl, ns, pl with
    | [c, d], _, [q, r], _ =>
      have hqr : q ≠ r := by
        intro e; subst e
        simp at pn
      have hs := spr2 (hL c (by simp)) (hL d (by simp)) hqr
      refine ⟨fun i hi => ?_, fun x hx => ?_, fun y hy => ?_, fun h => by simp at h⟩
      · show cd (spX [c, d] [q, r] 2) (spZ [c, d] [q, r] 2) i = 0
        simp only [List.mem_cons, List.not_mem_nil, or_false, not_or] at hi
        rw [hs, if_neg hi.1, if_neg hi.2]
      · cases hx
        show cd (spX [c, d] [q, r] 2) (spZ [c, d] [q, r] 2) q = _
        rw [hs, if_pos rfl]; rfl
      · cases hy
        show cd (spX [c, d] [q, r] 2) (spZ [c, d] [q, r] 2) r = _
        rw [hs, if_neg (fun e => hqr e.symm), if_pos rfl]; rfl

/-! ### What happens at the gate's qubits -/

/-- Letters at the two qubits, the phase: times letters with a phase. -/
def mulL (l : Nat × Nat × Nat) (a b s : Nat) : Nat × Nat × Nat := (xrC l.1 a, xrC l.2.1 b, (l.2.2 + s + oneN l.1 a + oneN l.2.1 b) % 4)
def imL (k j : Nat) (l : Nat × Nat × Nat) : Nat × Nat × Nat := mulL l (imC k j 0) (imC k j 1) (imS k j)
def stL (k i c : Nat) (l : Nat × Nat × Nat) : Nat × Nat × Nat :=
  if c = 0 then l else if c = 1 then imL k (2 * i) l else if c = 2 then imL k (2 * i + 1) (imL k (2 * i) (l.1, l.2.1, (l.2.2 + 1) % 4)) else imL k (2 * i + 1) l
def locT (k c1 c2 : Nat) : Nat × Nat × Nat := if k ≤ 10 then stL k 0 c1 (0, 0, 0) else stL k 1 c2 (stL k 0 c1 (0, 0, 0))

/-- A string, and what is at the gate's qubits. -/
structure LocR (ns : List Nat) (x z f : Nat) (o l : Nat × Nat × Nat) : Prop where
  out : ∀ i, i ∉ ns → cdo o i = cd x z i
  at0 : ∀ q, ns[0]? = some q → cdo o q = l.1
  at1 : ∀ r, ns[1]? = some r → cdo o r = l.2.1
  one : ns.length = 1 → l.2.1 = 0
  ph : o.2.2 % 4 = (f + l.2.2) % 4

theorem xrC_zero : ∀ c, c < 4 → xrC c 0 = c := by decide
theorem oneN_zero (c : Nat) : oneN c 0 = 0 := by unfold oneN; rw [if_pos (.inr (.inl rfl))]
theorem cdo_lt (o : Nat × Nat × Nat) (q : Nat) : cdo o q < 4 := cd_lt _ _ _

/-- The sum of phases at a gate's qubits. -/
theorem sum_at {k : Nat} {ns : List Nat} (hp : Pl k ns) (o s : Nat × Nat × Nat) {l m : Nat × Nat × Nat} (h0 : ∀ q, ns[0]? = some q → cdo o q = l.1) (h1 : ∀ r, ns[1]? = some r → cdo o r = l.2.1) (h2 : ns.length = 1 → l.2.1 = 0)
    (g0 : ∀ q, ns[0]? = some q → cdo s q = m.1) (g1 : ∀ r, ns[1]? = some r → cdo s r = m.2.1) (g2 : ns.length = 1 → m.2.1 = 0) :
    phs o.1 o.2.1 s.1 s.2.1 = sumTo (fun i => if i ∈ ns then 0 else oneN (cdo o i) (cdo s i)) 64 + (oneN l.1 m.1 + oneN l.2.1 m.2.1) := by
  obtain ⟨pl, pn, pq⟩ := hp
  have ha : ar k = 1 ∨ ar k = 2 := by unfold ar; split <;> simp
  have e := sum_split (fun i => oneN (cdo o i) (cdo s i)) ns pn pq
  have e2 : phs o.1 o.2.1 s.1 s.2.1 = sumTo (fun i => oneN (cdo o i) (cdo s i)) 64 := rfl
  rw [e2, e]
  congr 1
  rcases ha with ha | ha
  · rw [ha] at pl
    match ns, pl with
    | [q], _ =>
      rw [h2 rfl, g2 rfl, oneN_zero, ← h0 q rfl, ← g0 q rfl]
      simp
  · rw [ha] at pl
    match ns, pl with
    | [q, r], _ =>
      rw [← h0 q rfl, ← g0 q rfl, ← h1 r rfl, ← g1 r rfl]
      simp

theorem LocR.mul {k j x z f : Nat} {ns : List Nat} {o l : Nat × Nat × Nat} (h1 : 1 ≤ k) (h2 : k ≤ 17) (hj : j < 2 * ar k) (hp : Pl k ns) (h : LocR ns x z f o l) : LocR ns x z f (mulT o (sprT k j ns)) (imL k j l) := by
  obtain ⟨s0, s1, s2, s3⟩ := spr_at h1 h2 hj hp
  have hs := sum_at hp o (sprT k j ns) (l := l) (m := (imC k j 0, imC k j 1, 0)) h.at0 h.at1 h.one s1 s2 s3
  have hz : sumTo (fun i => if i ∈ ns then 0 else oneN (cdo o i) (cdo (sprT k j ns) i)) 64 = 0 := sum_none _ (fun i => by
    split
    · rfl
    · rename_i hi; rw [s0 i hi, oneN_zero]) 64
  rw [hz] at hs
  refine ⟨fun i hi => ?_, fun q hq => ?_, fun r hr => ?_, fun hl => ?_, ?_⟩
  · rw [cdo_mul, s0 i hi, xrC_zero _ (cdo_lt _ _)]; exact h.out i hi
  · rw [cdo_mul, h.at0 q hq, s1 q hq]; rfl
  · rw [cdo_mul, h.at1 r hr, s2 r hr]; rfl
  · show xrC l.2.1 (imC k j 1) = 0
    rw [h.one hl, s3 hl]; rfl
  · have hph := h.ph
    have e1 : (mulT o (sprT k j ns)).2.2 = (o.2.2 + imS k j + phs o.1 o.2.1 (sprT k j ns).1 (sprT k j ns).2.1) % 4 := rfl
    have e2 : (imL k j l).2.2 = (l.2.2 + imS k j + oneN l.1 (imC k j 0) + oneN l.2.1 (imC k j 1)) % 4 := rfl
    rw [e1, e2, hs]
    simp only
    omega

theorem LocR.turn {ns : List Nat} {x z f : Nat} {o l : Nat × Nat × Nat} (h : LocR ns x z f o l) : LocR ns x z f (o.1, o.2.1, (o.2.2 + 1) % 4) (l.1, l.2.1, (l.2.2 + 1) % 4) :=
  ⟨h.out, h.at0, h.at1, h.one, by have := h.ph; simp only; omega⟩

theorem LocR.st {k i c x z f : Nat} {ns : List Nat} {o l : Nat × Nat × Nat} (h1 : 1 ≤ k) (h2 : k ≤ 17) (hi : i < ar k) (hp : Pl k ns) (h : LocR ns x z f o l) : LocR ns x z f (stT k ns i c o) (stL k i c l) := by
  unfold stT stL
  split
  · exact h
  split
  · exact h.mul h1 h2 (by omega) hp
  split
  · exact (h.turn.mul h1 h2 (by omega) hp).mul h1 h2 (by omega) hp
  · exact h.mul h1 h2 (by omega) hp

/-! ### Bits cleared -/

theorem bt_clr {x q i : Nat} (hx : x < 18446744073709551616) (hq : q < 64) : bt (clr x q) i = if i = q then 0 else bt x i := by
  have ht : (clr x q).testBit i = (decide (i ≠ q) && x.testBit i) := by
    unfold clr
    rw [BitVec.testBit_toNat, BitVec.getLsbD_and, BitVec.getLsbD_not, BitVec.getLsbD_ofNat, BitVec.getLsbD_ofNat, Nat.testBit_two_pow]
    by_cases hi : i < 64
    · by_cases e : i = q
      · simp [hi, e]
      · have : ¬ q = i := fun h => e h.symm
        simp [hi, e, this]
    · have : x.testBit i = false := Nat.testBit_lt_two_pow (Nat.lt_of_lt_of_le (show x < 2 ^ 64 by omega) (Nat.pow_le_pow_right (by omega) (by omega)))
      simp [hi, this]
  have hl1 := bt_lt (clr x q) i
  have hl2 := bt_lt x i
  rw [bt_test, bt_test] at ht
  by_cases e : i = q
  · rw [if_pos e]
    simp [e] at ht
    rw [e] at hl1 ⊢
    omega
  · rw [if_neg e]
    simp [e] at ht
    rcases Nat.lt_or_ge (bt x i) 1 with h | h
    · have : bt x i = 0 := by omega
      rw [this] at ht ⊢
      simp at ht
      omega
    · have : bt x i = 1 := by omega
      rw [this] at ht ⊢
      simpa using ht
theorem bt_clrT {ns : List Nat} {x : Nat} (hx : x < 18446744073709551616) (hq : ∀ q ∈ ns, q < 64) (i : Nat) : ∀ m, m ≤ ns.length → bt (clrT ns x m) i = if i ∈ ns.take m then 0 else bt x i
  | 0, _ => by simp [clrT]
  | m + 1, hm => by
    have ih := bt_clrT hx hq i m (by omega)
    have hle := clrT_le (ns := ns) hx m
    have hg : ns.getD m 0 = ns[m] := by rw [List.getD_eq_getElem?_getD, List.getElem?_eq_getElem (by omega)]; rfl
    have ht : ns.take (m + 1) = ns.take m ++ [ns[m]] := by rw [List.take_add_one, List.getElem?_eq_getElem (by omega)]; rfl
    rw [clrT, hg, bt_clr (by omega) (hq _ (List.getElem_mem _)), ih, ht]
    by_cases e : i = ns[m]
    · rw [if_pos e, if_pos (List.mem_append_right _ (List.mem_singleton.2 e))]
    · rw [if_neg e]
      by_cases e2 : i ∈ ns.take m
      · rw [if_pos e2, if_pos (List.mem_append_left _ e2)]
      · rw [if_neg e2, if_neg (fun h => (List.mem_append.1 h).elim e2 (fun h => e (List.mem_singleton.1 h)))]

theorem LocR.start {ns : List Nat} {x z f : Nat} (hx : x < 18446744073709551616) (hz : z < 18446744073709551616) (hq : ∀ q ∈ ns, q < 64) : LocR ns x z f (clrT ns x ns.length, clrT ns z ns.length, f) (0, 0, 0) := by
  have b1 := fun i => bt_clrT hx hq i ns.length (Nat.le_refl _)
  have b2 := fun i => bt_clrT hz hq i ns.length (Nat.le_refl _)
  rw [List.take_length] at b1 b2
  have key : ∀ i, cdo (clrT ns x ns.length, clrT ns z ns.length, f) i = if i ∈ ns then 0 else cd x z i := fun i => by
    unfold cdo cd
    rw [b1, b2]
    by_cases e : i ∈ ns <;> simp [e]
  exact ⟨fun i hi => by rw [key, if_neg hi], fun q hq => by rw [key, if_pos (List.mem_of_getElem? hq)], fun r hr => by rw [key, if_pos (List.mem_of_getElem? hr)], fun _ => rfl, rfl⟩

/-- The letter at the t-th of the gate's qubits. -/
def cAt (ns : List Nat) (x z t : Nat) : Nat := match ns[t]? with | some q => cd x z q | none => 0
theorem cAt_lt (ns : List Nat) (x z t : Nat) : cAt ns x z t < 4 := by
  unfold cAt; split
  · exact cd_lt _ _ _
  · decide

/-- What comes out, site by site. -/
theorem out_loc {k x z f : Nat} {ns : List Nat} (h1 : 1 ≤ k) (h2 : k ≤ 17) (hp : Pl k ns) (hx : x < 18446744073709551616) (hz : z < 18446744073709551616) : LocR ns x z f (outT k x z f ns ns.length) (locT k (cAt ns x z 0) (cAt ns x z 1)) := by
  have hs := LocR.start (f := f) hx hz hp.2.2
  unfold locT
  by_cases hk : k ≤ 10
  · have ha : ar k = 1 := by unfold ar; rw [if_pos hk]
    have hl := hp.1
    rw [ha] at hl
    rw [if_pos hk]
    match ns, hl with
    | [q], _ => exact hs.st (i := 0) (c := cd x z q) h1 h2 (by omega) hp
  · have ha : ar k = 2 := by unfold ar; rw [if_neg hk]
    have hl := hp.1
    rw [ha] at hl
    rw [if_neg hk]
    match ns, hl with
    | [q, r], _ => exact (hs.st (i := 0) (c := cd x z q) h1 h2 (by omega) hp).st (i := 1) (c := cd x z r) h1 h2 (by omega) hp

/-! ### What is so at the gate's qubits, kind by kind -/

def codes : List Nat := [0, 1, 2, 3]
/-- The second letter: none at a gate of one qubit. -/
def codes2 (k : Nat) : List Nat := if k ≤ 10 then [0] else [0, 1, 2, 3]
def homB (k a1 a2 b1 b2 : Nat) : Bool :=
  let A := locT k a1 a2
  let B := locT k b1 b2
  let C := locT k (xrC a1 b1) (xrC a2 b2)
  C.1 == xrC A.1 B.1 && C.2.1 == xrC A.2.1 B.2.1 && (oneN a1 b1 + oneN a2 b2 + C.2.2) % 4 == (A.2.2 + B.2.2 + oneN A.1 B.1 + oneN A.2.1 B.2.1) % 4
set_option maxRecDepth 100000 in
theorem hom_all : ((List.range 17).all fun i => codes.all fun a1 => (codes2 (i + 1)).all fun a2 => codes.all fun b1 => (codes2 (i + 1)).all fun b2 => homB (i + 1) a1 a2 b1 b2) = true := by kernel_rfl
/-- The kind that takes a gate back. -/
def invK (k : Nat) : Nat := if k = 5 then 6 else if k = 6 then 5 else if k = 7 then 8 else if k = 8 then 7 else if k = 9 then 10 else if k = 10 then 9 else if k = 15 then 16 else if k = 16 then 15 else k
def backB (k a1 a2 : Nat) : Bool :=
  let A := locT k a1 a2
  let B := locT (invK k) A.1 A.2.1
  B.1 == a1 && B.2.1 == a2 && (A.2.2 + B.2.2) % 4 == 0
set_option maxRecDepth 100000 in
theorem back_all : ((List.range 17).all fun i => codes.all fun a1 => (codes2 (i + 1)).all fun a2 => backB (i + 1) a1 a2) = true := by kernel_rfl

theorem mem_codes {c : Nat} (h : c < 4) : c ∈ codes := by
  obtain rfl | rfl | rfl | rfl : c = 0 ∨ c = 1 ∨ c = 2 ∨ c = 3 := by omega
  all_goals decide
theorem mem_codes2 {k : Nat} {ns : List Nat} (hp : Pl k ns) (x z : Nat) : cAt ns x z 1 ∈ codes2 k := by
  have hl := hp.1
  unfold codes2
  by_cases hk : k ≤ 10
  · rw [if_pos hk]
    unfold ar at hl
    rw [if_pos hk] at hl
    match ns, hl with
    | [q], _ => exact List.mem_singleton.2 rfl
  · rw [if_neg hk]
    exact mem_codes (cAt_lt _ _ _ _)
theorem hom_at {k : Nat} {ns : List Nat} (h1 : 1 ≤ k) (h2 : k ≤ 17) (hp : Pl k ns) (xa za xb zb : Nat) : homB k (cAt ns xa za 0) (cAt ns xa za 1) (cAt ns xb zb 0) (cAt ns xb zb 1) = true := by
  have := List.all_eq_true.1 hom_all (k - 1) (List.mem_range.2 (by omega))
  rw [show k - 1 + 1 = k by omega] at this
  have := List.all_eq_true.1 this _ (mem_codes (cAt_lt ns xa za 0))
  have := List.all_eq_true.1 this _ (mem_codes2 hp xa za)
  have := List.all_eq_true.1 this _ (mem_codes (cAt_lt ns xb zb 0))
  exact List.all_eq_true.1 this _ (mem_codes2 hp xb zb)
theorem back_at {k : Nat} {ns : List Nat} (h1 : 1 ≤ k) (h2 : k ≤ 17) (hp : Pl k ns) (x z : Nat) : backB k (cAt ns x z 0) (cAt ns x z 1) = true := by
  have := List.all_eq_true.1 back_all (k - 1) (List.mem_range.2 (by omega))
  rw [show k - 1 + 1 = k by omega] at this
  have := List.all_eq_true.1 this _ (mem_codes (cAt_lt ns x z 0))
  exact List.all_eq_true.1 this _ (mem_codes2 hp x z)

theorem cAt_xor {k : Nat} {ns : List Nat} (xa za xb zb t : Nat) : cAt ns (xa ^^^ xb) (za ^^^ zb) t = xrC (cAt ns xa za t) (cAt ns xb zb t) := by
  unfold cAt
  cases ns[t]? with
  | none => rfl
  | some q => exact cd_xr _ _ _ _ _
theorem at_some {ns : List Nat} {x z t q : Nat} (h : ns[t]? = some q) : cAt ns x z t = cd x z q := by unfold cAt; rw [h]
/-- Equal letters everywhere, equal phases: equal strings. -/
theorem tri_ext {o p : Nat × Nat × Nat} (h : ∀ q, cdo o q = cdo p q) (hp : o.2.2 = p.2.2) : o = p := by
  obtain ⟨a, b, c⟩ := o
  obtain ⟨a', b', c'⟩ := p
  obtain ⟨h1, h2⟩ := cd_ext h
  simp only at h1 h2 hp
  rw [h1, h2, hp]
theorem mem_two {k : Nat} {ns : List Nat} (hp : Pl k ns) {i : Nat} (hi : i ∈ ns) : ns[0]? = some i ∨ ns[1]? = some i := by
  have hl := hp.1
  have ha : ar k = 1 ∨ ar k = 2 := by unfold ar; split <;> simp
  rcases ha with ha | ha
  · rw [ha] at hl
    match ns, hl with
    | [q], _ => left; simp at hi; rw [hi]; rfl
  · rw [ha] at hl
    match ns, hl with
    | [q, r], _ =>
      simp only [List.mem_cons, List.not_mem_nil, or_false] at hi
      rcases hi with rfl | rfl
      · left; rfl
      · right; rfl

/-- PRODUCTS GO THROUGH. -/
theorem thru_mul {k n : Nat} {ns : List Nat} (h1 : 1 ≤ k) (h2 : k ≤ 17) (hp : Pl k ns) (hn : n ≤ 64) (hq : ∀ q ∈ ns, q < n) {xa za fa xb zb fb : Nat} (ax : xa < 2 ^ n) (az : za < 2 ^ n) (af : fa ≤ 3) (bx : xb < 2 ^ n) (bz : zb < 2 ^ n) (bf : fb ≤ 3) :
    outT k (xa ^^^ xb) (za ^^^ zb) ((fa + fb + phs xa za xb zb) % 4) ns ns.length = mulT (outT k xa za fa ns ns.length) (outT k xb zb fb ns ns.length) := by
  have e64 : (2 : Nat) ^ n ≤ 2 ^ 64 := Nat.pow_le_pow_right (by omega) hn
  have lx := Nat.xor_lt_two_pow ax bx
  have lz := Nat.xor_lt_two_pow az bz
  have LA := out_loc (f := fa) h1 h2 hp (x := xa) (z := za) (by omega) (by omega)
  have LB := out_loc (f := fb) h1 h2 hp (x := xb) (z := zb) (by omega) (by omega)
  have LC := out_loc (f := (fa + fb + phs xa za xb zb) % 4) h1 h2 hp (x := xa ^^^ xb) (z := za ^^^ zb) (by omega) (by omega)
  have SC := out_sm (k := k) (p := (fa + fb + phs xa za xb zb) % 4) hq hn lx lz (by omega) ns.length
  have hh := hom_at h1 h2 hp xa za xb zb
  rw [cAt_xor (k := k), cAt_xor (k := k)] at LC
  have PS := sum_at hp (xa, za, 0) (xb, zb, 0) (l := (cAt ns xa za 0, cAt ns xa za 1, 0)) (m := (cAt ns xb zb 0, cAt ns xb zb 1, 0)) (fun q hq => (at_some hq).symm) (fun q hq => (at_some hq).symm) (fun hl => by
      match ns, hl with
      | [q], _ => rfl) (fun q hq => (at_some hq).symm) (fun q hq => (at_some hq).symm) (fun hl => by
      match ns, hl with
      | [q], _ => rfl)
  have PT := sum_at hp (outT k xa za fa ns ns.length) (outT k xb zb fb ns ns.length) LA.at0 LA.at1 LA.one LB.at0 LB.at1 LB.one
  have hsame : sumTo (fun i => if i ∈ ns then 0 else oneN (cdo (outT k xa za fa ns ns.length) i) (cdo (outT k xb zb fb ns ns.length) i)) 64 = sumTo (fun i => if i ∈ ns then 0 else oneN (cdo (xa, za, 0) i) (cdo (xb, zb, 0) i)) 64 := sumTo_congr fun i _ => by
    by_cases hi : i ∈ ns
    · rw [if_pos hi, if_pos hi]
    · rw [if_neg hi, if_neg hi, LA.out i hi, LB.out i hi]; rfl
  rw [hsame] at PT
  generalize sumTo (fun i => if i ∈ ns then 0 else oneN (cdo (xa, za, 0) i) (cdo (xb, zb, 0) i)) 64 = R at PS PT
  unfold homB at hh
  simp only [Bool.and_eq_true, beq_iff_eq] at hh
  generalize locT k (xrC (cAt ns xa za 0) (cAt ns xb zb 0)) (xrC (cAt ns xa za 1) (cAt ns xb zb 1)) = C at *
  generalize hA : locT k (cAt ns xa za 0) (cAt ns xa za 1) = A at *
  generalize hB : locT k (cAt ns xb zb 0) (cAt ns xb zb 1) = B at *
  refine tri_ext (fun q => ?_) ?_
  · rw [cdo_mul]
    by_cases hi : q ∈ ns
    · rcases mem_two hp hi with h | h
      · rw [LC.at0 q h, LA.at0 q h, LB.at0 q h]; exact hh.1.1
      · rw [LC.at1 q h, LA.at1 q h, LB.at1 q h]; exact hh.1.2
    · rw [LC.out q hi, LA.out q hi, LB.out q hi]; exact cd_xr _ _ _ _ _
  · have p1 := LC.ph
    have p2 := LA.ph
    have p3 := LB.ph
    have p4 := SC.2.2
    have p5 := hh.2
    have e1 : (mulT (outT k xa za fa ns ns.length) (outT k xb zb fb ns ns.length)).2.2 = ((outT k xa za fa ns ns.length).2.2 + (outT k xb zb fb ns ns.length).2.2 + phs (outT k xa za fa ns ns.length).1 (outT k xa za fa ns ns.length).2.1 (outT k xb zb fb ns ns.length).1 (outT k xb zb fb ns ns.length).2.1) % 4 := rfl
    rw [e1, PT]
    simp only at PS
    rw [PS] at p1 p4 ⊢
    omega

/-- THE WAY BACK. -/
theorem thru_back {k n : Nat} {ns : List Nat} (h1 : 1 ≤ k) (h2 : k ≤ 17) (hp : Pl k ns) (hn : n ≤ 64) (hq : ∀ q ∈ ns, q < n) {x z f : Nat} (hx : x < 2 ^ n) (hz : z < 2 ^ n) (hf : f ≤ 3) :
    outT (invK k) (outT k x z f ns ns.length).1 (outT k x z f ns ns.length).2.1 (outT k x z f ns ns.length).2.2 ns ns.length = (x, z, f) := by
  have e64 : (2 : Nat) ^ n ≤ 2 ^ 64 := Nat.pow_le_pow_right (by omega) hn
  have LA := out_loc (f := f) h1 h2 hp (x := x) (z := z) (by omega) (by omega)
  have SA := out_sm (k := k) hq hn hx hz hf ns.length
  have i1 : 1 ≤ invK k := by unfold invK; repeat' (first | split | omega)
  have i2 : invK k ≤ 17 := by unfold invK; repeat' (first | split | omega)
  have ia : ar (invK k) = ar k := by
    have : ((List.range 17).all fun i => ar (invK (i + 1)) == ar (i + 1)) = true := by decide
    have := List.all_eq_true.1 this (k - 1) (List.mem_range.2 (by omega))
    rw [show k - 1 + 1 = k by omega] at this
    exact eq_of_beq this
  have hp' : Pl (invK k) ns := ⟨by rw [ia]; exact hp.1, hp.2⟩
  have hh := back_at h1 h2 hp x z
  generalize hO : outT k x z f ns ns.length = O at *
  have LB := out_loc (f := O.2.2) i1 i2 hp' (x := O.1) (z := O.2.1) (by have := SA.1; omega) (by have := SA.2.1; omega)
  have SB := out_sm (k := invK k) hq hn SA.1 SA.2.1 SA.2.2 ns.length
  have c0 : cAt ns O.1 O.2.1 0 = (locT k (cAt ns x z 0) (cAt ns x z 1)).1 := by
    have ha : 0 < ns.length := by rw [hp.1]; unfold ar; split <;> omega
    rw [at_some (List.getElem?_eq_getElem ha)]
    exact LA.at0 _ (List.getElem?_eq_getElem ha)
  have c1 : cAt ns O.1 O.2.1 1 = (locT k (cAt ns x z 0) (cAt ns x z 1)).2.1 := by
    by_cases ha : 1 < ns.length
    · rw [at_some (List.getElem?_eq_getElem ha)]
      exact LA.at1 _ (List.getElem?_eq_getElem ha)
    · have hl : ns.length = 1 := by
        have := hp.1
        have : ar k = 1 ∨ ar k = 2 := by unfold ar; split <;> simp
        omega
      rw [LA.one hl]
      unfold cAt
      rw [List.getElem?_eq_none (by omega)]
  rw [c0, c1] at LB
  unfold backB at hh
  simp only [Bool.and_eq_true, beq_iff_eq] at hh
  generalize locT k (cAt ns x z 0) (cAt ns x z 1) = A at *
  generalize locT (invK k) A.1 A.2.1 = B at *
  refine tri_ext (fun q => ?_) ?_
  · by_cases hi : q ∈ ns
    · rcases mem_two hp hi with h | h
      · rw [LB.at0 q h, hh.1.1, at_some h]; rfl
      · rw [LB.at1 q h, hh.1.2, at_some h]; rfl
    · rw [LB.out q hi]; exact LA.out q hi
  · have p1 := LB.ph
    have p2 := LA.ph
    have p3 := SB.2.2
    have p4 := hh.2
    simp only
    omega

/-- The phase goes along. -/
theorem out_cd {k x z f g : Nat} {ns : List Nat} (h1 : 1 ≤ k) (h2 : k ≤ 17) (hp : Pl k ns) (hx : x < 18446744073709551616) (hz : z < 18446744073709551616) :
    (outT k x z f ns ns.length).1 = (outT k x z g ns ns.length).1 ∧ (outT k x z f ns ns.length).2.1 = (outT k x z g ns ns.length).2.1 ∧ ((outT k x z f ns ns.length).2.2 + g) % 4 = ((outT k x z g ns ns.length).2.2 + f) % 4 := by
  have LA := out_loc (f := f) h1 h2 hp hx hz
  have LB := out_loc (f := g) h1 h2 hp hx hz
  have key : ∀ q, cdo (outT k x z f ns ns.length) q = cdo (outT k x z g ns ns.length) q := fun q => by
    by_cases hi : q ∈ ns
    · rcases mem_two hp hi with h | h
      · rw [LA.at0 q h, LB.at0 q h]
      · rw [LA.at1 q h, LB.at1 q h]
    · rw [LA.out q hi, LB.out q hi]
  obtain ⟨e1, e2⟩ := cd_ext key
  exact ⟨e1, e2, by have := LA.ph; have := LB.ph; omega⟩

end Go.Proofs.YtecfmnldanahiaaDoor.B
