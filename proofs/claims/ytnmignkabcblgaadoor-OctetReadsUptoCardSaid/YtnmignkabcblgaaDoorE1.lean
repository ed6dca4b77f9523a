/- Part of a claim: abstract values, the abstract heap of a call's own blocks, and what relates them to the model's values and world. Nothing of a program stands here. -/
import Derived.WalkKit
import Derived.Laws.Cells
import Derived.Laws.CopyRow
set_option linter.unusedSimpArgs false
set_option linter.unusedVariables false
namespace Go.Proofs.YtnmignkabcblgaaDoor.E
open Go Go.RowKit

/-- Abstract values. 'ptr', 'slice': into the abstract heap (block, epoch, offset ..); 'optr', 'oslice': into memory that was there before. A slice's 'cap' is known only where its block never grows. -/
inductive AV where
  | bool (b : Bool)
  | int (k : IntKind) (n : Int)
  | float (k : FloatKind) (b : Nat)
  | cplx (k : FloatKind) (re im : Nat)
  | str (s : List UInt8)
  | nilptr
  | ptr (b ep off : Nat)
  | optr (a : Addr)
  | nilslice
  | slice (b ep off sz len : Nat) (cap : Option Nat)
  | oslice (a : Addr) (len cap : Nat)
  | func (f : Nat)
  | nilfunc
  | iface (t : TypeId) (v : AV)
  | nilIface
  | agg (l : List AV)
  | tup (l : List AV)
  | other (v : Value)
  deriving Inhabited

/-- Where an epoch of a block lies: the concrete block, its cells, how many of them are spoken of. -/
structure Loc where
  cb : Nat
  tot : Nat
  ln : Nat

abbrev Asg := Nat → Nat → Option Loc

def isNaN (k : FloatKind) (b : Nat) : Bool := (k.format.read b).isNaN

/-- The same bits, or two NaNs. -/
def FR (k : FloatKind) (a b : Nat) : Prop := a = b ∨ (isNaN k a = true ∧ isNaN k b = true)

mutual
def VR (ρ : Asg) : AV → Value → Prop
  | .bool b, v => v = .bool b
  | .int k n, v => v = .int k n
  | .float k b, v => ∃ b', v = .float k b' ∧ FR k b b'
  | .cplx k x y, v => ∃ x' y', v = .complex k x' y' ∧ FR k x x' ∧ FR k y y'
  | .str s, v => v = .string ⟨⟨s⟩⟩
  | .nilptr, v => v = .pointer none
  | .ptr b e off, v => ∃ l, ρ b e = some l ∧ off < l.ln ∧ v = .pointer (some ⟨l.cb, off, none⟩)
  | .optr a, v => v = .pointer (some a)
  | .nilslice, v => v = .slice none 0 0
  | .slice b e off sz len cap, v => ∃ l a c, ρ b e = some l ∧ v = .slice (some a) len c ∧ (∀ c0, cap = some c0 → c = c0) ∧ len ≤ c ∧
      off + len * sz ≤ l.ln ∧ off + c * sz ≤ l.tot ∧ ((a.block = l.cb ∧ c = 0) ∨ a = ⟨l.cb, off, none⟩)
  | .oslice a len cap, v => v = .slice (some a) len cap
  | .func f, v => v = .func (.func f) #[] #[]
  | .nilfunc, v => v = .nilFunc
  | .iface t x, v => ∃ y, v = .iface t y ∧ VR ρ x y
  | .nilIface, v => v = .nilIface
  | .agg l, v => ∃ vs : Array Value, v = .agg vs ∧ VRs ρ l vs.toList
  | .tup l, v => ∃ vs : Array Value, v = .tuple vs ∧ VRs ρ l vs.toList
  | .other w, v => v = w
def VRs (ρ : Asg) : List AV → List Value → Prop
  | [], vs => vs = []
  | x :: xs, vs => ∃ y ys, vs = y :: ys ∧ VR ρ x y ∧ VRs ρ xs ys
end

def Le (ρ ρ' : Asg) : Prop := ∀ b e l, ρ b e = some l → ρ' b e = some l

theorem Le.refl (ρ : Asg) : Le ρ ρ := fun _ _ _ h => h
theorem Le.trans {a b c : Asg} (h : Le a b) (k : Le b c) : Le a c := fun x e l q => k _ _ _ (h x e l q)

mutual
theorem VR.mono {ρ ρ' : Asg} (h : Le ρ ρ') : ∀ (x : AV) (v : Value), VR ρ x v → VR ρ' x v
  | .bool _, _, q => by simpa only [VR] using q
  | .int _ _, _, q => by simpa only [VR] using q
  | .float _ _, _, q => by simpa only [VR] using q
  | .cplx _ _ _, _, q => by simpa only [VR] using q
  | .str _, _, q => by simpa only [VR] using q
  | .nilptr, _, q => by simpa only [VR] using q
  | .ptr b e off, v, q => by
      simp only [VR] at q ⊢
      obtain ⟨l, h1, h2⟩ := q
      exact ⟨l, h _ _ _ h1, h2⟩
  | .optr _, _, q => by simpa only [VR] using q
  | .nilslice, _, q => by simpa only [VR] using q
  | .slice b e off sz len cap, v, q => by
      simp only [VR] at q ⊢
      obtain ⟨l, a, c, h1, h2⟩ := q
      exact ⟨l, a, c, h _ _ _ h1, h2⟩
  | .oslice _ _ _, _, q => by simpa only [VR] using q
  | .func _, _, q => by simpa only [VR] using q
  | .nilfunc, _, q => by simpa only [VR] using q
  | .iface t x, v, q => by
      simp only [VR] at q ⊢
      obtain ⟨y, h1, h2⟩ := q
      exact ⟨y, h1, VR.mono h x y h2⟩
  | .nilIface, _, q => by simpa only [VR] using q
  | .agg l, v, q => by
      simp only [VR] at q ⊢
      obtain ⟨vs, h1, h2⟩ := q
      exact ⟨vs, h1, VRs.mono h l _ h2⟩
  | .tup l, v, q => by
      simp only [VR] at q ⊢
      obtain ⟨vs, h1, h2⟩ := q
      exact ⟨vs, h1, VRs.mono h l _ h2⟩
  | .other _, _, q => by simpa only [VR] using q
theorem VRs.mono {ρ ρ' : Asg} (h : Le ρ ρ') : ∀ (l : List AV) (vs : List Value), VRs ρ l vs → VRs ρ' l vs
  | [], vs, q => by simpa only [VRs] using q
  | x :: xs, vs, q => by
      simp only [VRs] at q ⊢
      obtain ⟨y, ys, h1, h2, h3⟩ := q
      exact ⟨y, ys, h1, VR.mono h x y h2, VRs.mono h xs ys h3⟩
end

theorem VRs.length {ρ : Asg} : ∀ {l : List AV} {vs : List Value}, VRs ρ l vs → vs.length = l.length
  | [], vs, h => by simp only [VRs] at h; simp [h]
  | x :: xs, vs, h => by
    simp only [VRs] at h
    obtain ⟨y, ys, rfl, _, h3⟩ := h
    simp [VRs.length h3]

theorem VRs.get {ρ : Asg} : ∀ {l : List AV} {vs : List Value}, VRs ρ l vs → ∀ {i : Nat} {x : AV}, l[i]? = some x → ∃ v, vs[i]? = some v ∧ VR ρ x v
  | [], vs, h, i, x, hx => by simp at hx
  | y :: ys, vs, h, i, x, hx => by
    simp only [VRs] at h
    obtain ⟨w, ws, rfl, h2, h3⟩ := h
    cases i with
    | zero => simp only [List.getElem?_cons_zero, Option.some.injEq] at hx ⊢; subst hx; exact ⟨w, rfl, h2⟩
    | succ i => simp only [List.getElem?_cons_succ] at hx ⊢; exact VRs.get h3 hx

theorem VRs.mk {ρ : Asg} : ∀ {l : List AV} {vs : List Value}, vs.length = l.length → (∀ (i : Nat) (x : AV) (v : Value), l[i]? = some x → vs[i]? = some v → VR ρ x v) → VRs ρ l vs
  | [], vs, hl, h => by simp only [VRs]; exact List.eq_nil_of_length_eq_zero (by simpa using hl)
  | y :: ys, vs, hl, h => by
    cases vs with
    | nil => simp at hl
    | cons w ws =>
      simp only [VRs]
      exact ⟨w, ws, rfl, h 0 y w rfl rfl, VRs.mk (by simpa using hl) fun i x v hx hv => h (i + 1) x v (by simpa using hx) (by simpa using hv)⟩

theorem VRs.set {ρ : Asg} {l : List AV} {vs : List Value} (h : VRs ρ l vs) (i : Nat) {x : AV} {v : Value} (hx : VR ρ x v) : VRs ρ (l.set i x) (vs.set i v) := by
  refine VRs.mk (by simp [h.length]) fun j y w hy hw => ?_
  rw [List.getElem?_set] at hy hw
  split at hy
  · rename_i e
    subst e
    simp only [if_true] at hw
    split at hy <;> simp at hy
    split at hw <;> simp at hw
    subst hy; subst hw; exact hx
  · rename_i e
    rw [if_neg e] at hw
    obtain ⟨u, hu, hv⟩ := h.get hy
    rw [hu] at hw; cases hw; exact hv

theorem VRs.append {ρ : Asg} : ∀ {l l' : List AV} {vs vs' : List Value}, VRs ρ l vs → VRs ρ l' vs' → VRs ρ (l ++ l') (vs ++ vs')
  | [], l', vs, vs', h, h' => by simp only [VRs] at h; subst h; simpa using h'
  | x :: xs, l', vs, vs', h, h' => by
    simp only [VRs] at h
    obtain ⟨y, ys, rfl, h2, h3⟩ := h
    simp only [List.cons_append, VRs]
    exact ⟨y, ys ++ vs', rfl, h2, VRs.append h3 h'⟩

theorem VRs.take {ρ : Asg} {l : List AV} {vs : List Value} (h : VRs ρ l vs) (n : Nat) : VRs ρ (l.take n) (vs.take n) := by
  refine VRs.mk (by simp [h.length]) fun j y w hy hw => ?_
  rw [List.getElem?_take] at hy hw
  split at hy
  · rename_i e
    rw [if_pos e] at hw
    obtain ⟨u, hu, hv⟩ := h.get hy
    rw [hu] at hw; cases hw; exact hv
  · simp at hy

theorem VRs.drop {ρ : Asg} {l : List AV} {vs : List Value} (h : VRs ρ l vs) (n : Nat) : VRs ρ (l.drop n) (vs.drop n) := by
  refine VRs.mk (by simp [h.length]) fun j y w hy hw => ?_
  rw [List.getElem?_drop] at hy hw
  obtain ⟨u, hu, hv⟩ := h.get hy
  rw [hu] at hw; cases hw; exact hv

theorem VRs.replicate {ρ : Asg} {x : AV} {v : Value} (h : VR ρ x v) (n : Nat) : VRs ρ (List.replicate n x) (List.replicate n v) :=
  VRs.mk (by simp) fun i y w hy hw => by
    rw [List.getElem?_replicate] at hy hw
    split at hy <;> simp at hy
    rename_i e
    rw [if_pos e] at hw
    cases hw; subst hy; exact h

/-- May the value lie in one cell? -/
def isCell : AV → Bool
  | .agg _ => false
  | .tup _ => false
  | .other (.agg _) => false
  | .other (.tuple _) => false
  | _ => true

theorem VR.cell {ρ : Asg} {x : AV} {v : Value} (h : VR ρ x v) (hc : isCell x = true) : (∀ l, v ≠ .agg l) ∧ (∀ l, v ≠ .tuple l) := by
  cases x <;> simp only [VR] at h
  case other w => subst h; cases v <;> simp_all [isCell]
  case agg => simp [isCell] at hc
  case tup => simp [isCell] at hc
  all_goals first
    | (subst h; exact ⟨nofun, nofun⟩)
    | (obtain ⟨_, rfl, _⟩ := h; exact ⟨nofun, nofun⟩)
    | (obtain ⟨_, _, rfl, _⟩ := h; exact ⟨nofun, nofun⟩)
    | (obtain ⟨_, _, _, rfl⟩ := h; exact ⟨nofun, nofun⟩)
    | (obtain ⟨_, _, _, _, rfl, _⟩ := h; exact ⟨nofun, nofun⟩)

/-- A block of the abstract heap: cells (with the epoch, and the first epoch that may still be read), an iterator over a string, or nothing that is spoken of any more. -/
inductive HB where
  | c (cells : List AV) (elem : TypeId) (ep sep : Nat)
  | it (s : List UInt8) (pos : Nat)
  | dead
  deriving Inhabited

abbrev Heap := List HB

/-- No cell of the block is a string's. -/
def FrOK (fr : Nat × Nat) (tot : Nat) : Prop := fr.1 = fr.2 ∨ tot ≤ fr.1
theorem FrOK.not {fr : Nat × Nat} {tot : Nat} (h : FrOK fr tot) (i : Nat) (hi : i < tot) : ¬ (fr.1 ≤ i ∧ i < fr.2) := by
  rcases h with h | h <;> omega

def LocOK (ρ : Asg) (W : World) (cells : List AV) (elem : TypeId) (l : Loc) : Prop :=
  l.ln ≤ cells.length ∧ l.ln ≤ l.tot ∧ ∃ cs fr, W.heap[l.cb]? = some (.cells cs elem fr) ∧ cs.size = l.tot ∧ FrOK fr l.tot ∧
    ∀ i v, i < l.ln → cells[i]? = some v → ∃ cv, cs[i]? = some cv ∧ VR ρ v cv

def BlkOK (ρ : Asg) (W : World) (b : Nat) : HB → Prop
  | .c cells elem ep sep => sep ≤ ep ∧ (∃ l, ρ b ep = some l ∧ l.ln = cells.length) ∧ (∀ e l, ρ b e = some l → e ≤ ep) ∧
      ∀ e l, sep ≤ e → ρ b e = some l → LocOK ρ W cells elem l
  | .it s pos => (∃ l, ρ b 0 = some l ∧ W.heap[l.cb]? = some (.stringIter ⟨⟨s⟩⟩ pos)) ∧ ∀ e l, ρ b e = some l → e = 0
  | .dead => True

structure Rel (ρ : Asg) (H : Heap) (W0 W : World) : Prop where
  below : Below W0.heap.size W0 W
  dom : ∀ b e l, ρ b e = some l → b < H.length ∧ W0.heap.size ≤ l.cb ∧ l.cb < W.heap.size
  own : ∀ b b' e e' l l', ρ b e = some l → ρ b' e' = some l' → l.cb = l'.cb → b = b'
  blk : ∀ b x, H[b]? = some x → BlkOK ρ W b x

/-- What is known of memory that was there before. -/
def MOK (M : Addr → Option AV) (W0 : World) : Prop := ∀ a v, M a = some v → ∃ cv, W0.cell? a = some cv ∧ VR (fun _ _ => none) v cv

theorem Le.none (ρ : Asg) : Le (fun _ _ => none) ρ := fun _ _ _ h => by cases h

/-- A draw turns nothing. -/
theorem Rel.drawn {ρ : Asg} {H : Heap} {W0 W : World} (h : Rel ρ H W0 W) (n : Nat) : Rel ρ H W0 { W with drawn := n } :=
  { below := ⟨h.below.os, h.below.tape, h.below.output, h.below.size, h.below.block⟩, dom := h.dom, own := h.own,
    blk := fun b x hx => by
      have := h.blk b x hx
      cases x with
      | c cells elem ep sep => exact this
      | it s pos => exact this
      | dead => trivial }

theorem LocOK.mono {ρ ρ' : Asg} {W W' : World} {cells : List AV} {elem : TypeId} {l : Loc} (h : LocOK ρ W cells elem l) (hρ : Le ρ ρ') (hW : W'.heap[l.cb]? = W.heap[l.cb]?) : LocOK ρ' W' cells elem l := by
  obtain ⟨h1, h2, cs, fr, h3, h4, h5, h6⟩ := h
  exact ⟨h1, h2, cs, fr, hW ▸ h3, h4, h5, fun i v hi hv => let ⟨cv, q1, q2⟩ := h6 i v hi hv; ⟨cv, q1, q2.mono hρ⟩⟩

/-- A new block. -/
def Asg.put (ρ : Asg) (b e : Nat) (l : Loc) : Asg := fun b' e' => if b' = b ∧ e' = e then some l else ρ b' e'

theorem Asg.put_same (ρ : Asg) (b e : Nat) (l : Loc) : ρ.put b e l b e = some l := by simp [Asg.put]

theorem Asg.put_le {ρ : Asg} {b e : Nat} {l : Loc} (h : ρ b e = none) : Le ρ (ρ.put b e l) := fun b' e' l' q => by
  unfold Asg.put
  split
  · rename_i hh; obtain ⟨rfl, rfl⟩ := hh; rw [h] at q; cases q
  · exact q

theorem Asg.put_inv {ρ : Asg} {b e b' e' : Nat} {l l' : Loc} (h : ρ.put b e l b' e' = some l') : (b' = b ∧ e' = e ∧ l' = l) ∨ ρ b' e' = some l' := by
  unfold Asg.put at h
  split at h
  · rename_i hh; cases h; exact .inl ⟨hh.1, hh.2, rfl⟩
  · exact .inr h

theorem Rel.fresh {ρ : Asg} {H : Heap} {W0 W : World} (h : Rel ρ H W0 W) (e : Nat) : ρ H.length e = none := by
  cases q : ρ H.length e with
  | none => rfl
  | some l => exact absurd (h.dom _ _ _ q).1 (by omega)

theorem heap_push (W : World) (o : Obj) (k : Nat) (h : k < W.heap.size) : ({ W with heap := W.heap.push o } : World).heap[k]? = W.heap[k]? := by
  show (W.heap.push o)[k]? = _
  rw [Array.getElem?_push, if_neg (by omega)]

theorem Below.push {W0 W : World} (h : Below W0.heap.size W0 W) (o : Obj) : Below W0.heap.size W0 { W with heap := W.heap.push o } :=
  ⟨h.os, h.tape, h.output, by have := h.size; simp; omega, fun k hk => by rw [heap_push _ _ _ (by have := h.size; omega)]; exact h.block k hk⟩

/-- A new concrete block for block b (new, or a later epoch): all that was said before stands, of every other block. -/
theorem Rel.keep_push {ρ ρ' : Asg} {H : Heap} {W0 W : World} (h : Rel ρ H W0 W) (hρ : Le ρ ρ') (o : Obj) {b : Nat} {x : HB} (hb : H[b]? = some x)
    (hdom : ∀ e l, ρ' b e = some l → ρ b e = some l) : BlkOK ρ' { W with heap := W.heap.push o } b x := by
  have hk := h.blk b x hb
  have hp : ∀ e l, ρ b e = some l → ({ W with heap := W.heap.push o } : World).heap[l.cb]? = W.heap[l.cb]? := fun e l q => heap_push _ _ _ (h.dom b e l q).2.2
  cases x with
  | c cells elem ep sep =>
    obtain ⟨h1, ⟨l, h2, h3⟩, h4, h5⟩ := hk
    exact ⟨h1, ⟨l, hρ _ _ _ h2, h3⟩, fun e l q => h4 e l (hdom e l q), fun e l he q => (h5 e l he (hdom e l q)).mono hρ (hp e l (hdom e l q))⟩
  | it s pos =>
    obtain ⟨⟨l, h1, h2⟩, h3⟩ := hk
    exact ⟨⟨l, hρ _ _ _ h1, by rw [hp 0 l h1]; exact h2⟩, fun e l q => h3 e l (hdom e l q)⟩
  | dead => trivial

theorem Rel.alloc {ρ : Asg} {H : Heap} {W0 W : World} (h : Rel ρ H W0 W) {cells : List AV} {cs : Array Value} (elem : TypeId) (fr : Nat × Nat)
    (hl : cells.length ≤ cs.size) (hc : VRs ρ cells (cs.toList.take cells.length)) (hf : FrOK fr cs.size) :
    Le ρ (ρ.put H.length 0 ⟨W.heap.size, cs.size, cells.length⟩) ∧
    Rel (ρ.put H.length 0 ⟨W.heap.size, cs.size, cells.length⟩) (H ++ [.c cells elem 0 0]) W0 { W with heap := W.heap.push (.cells cs elem fr) } := by
  have hle : Le ρ (ρ.put H.length 0 ⟨W.heap.size, cs.size, cells.length⟩) := Asg.put_le (h.fresh 0)
  refine ⟨hle, ⟨Below.push h.below _, ?_, ?_, ?_⟩⟩
  · intro b e l q
    rcases Asg.put_inv q with ⟨rfl, rfl, rfl⟩ | q
    · have := h.below.size; simp; omega
    · have := h.dom b e l q; simp; omega
  · intro b b' e e' l l' q q' hcb
    rcases Asg.put_inv q with ⟨rfl, rfl, rfl⟩ | q <;> rcases Asg.put_inv q' with ⟨rfl, rfl, rfl⟩ | q'
    · rfl
    · have := (h.dom _ _ _ q').2.2; simp at hcb; omega
    · have := (h.dom _ _ _ q).2.2; simp at hcb; omega
    · exact h.own b b' e e' l l' q q' hcb
  · intro b x hb
    rw [List.getElem?_append] at hb
    split at hb
    · rename_i hlt
      refine h.keep_push hle _ hb fun e l q => ?_
      rcases Asg.put_inv q with ⟨rfl, _, _⟩ | q
      · omega
      · exact q
    · rename_i hge
      have hb0 : b = H.length := by
        have h1 : b - H.length = 0 := by
          rcases Nat.eq_zero_or_pos (b - H.length) with h0 | h0
          · exact h0
          · rw [List.getElem?_eq_none (by simp; omega)] at hb; cases hb
        omega
      subst hb0
      simp at hb
      subst hb
      refine ⟨Nat.le_refl _, ⟨_, Asg.put_same _ _ _ _, rfl⟩, ?_, ?_⟩
      · intro e l q
        rcases Asg.put_inv q with ⟨_, rfl, _⟩ | q
        · exact Nat.le_refl _
        · rw [h.fresh e] at q; cases q
      · intro e l _ q
        rcases Asg.put_inv q with ⟨_, rfl, rfl⟩ | q
        · refine ⟨Nat.le_refl _, hl, cs, fr, ?_, rfl, hf, ?_⟩
          · show (W.heap.push _)[W.heap.size]? = _
            simp
          · intro i v hi hv
            obtain ⟨cv, hcv, hr⟩ := hc.get hv
            rw [List.getElem?_take, if_pos hi] at hcv
            exact ⟨cv, by simpa using hcv, hr.mono hle⟩
        · rw [h.fresh e] at q; cases q

end Go.Proofs.YtnmignkabcblgaaDoor.E
