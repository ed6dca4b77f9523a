/- Part of a claim: slices that are read, slices that grow; what stays as it was in a heap. Nothing of a program stands here. -/
import Derived.Test.YtnmignkabcblgaaDoorE25
set_option linter.unusedSimpArgs false
set_option linter.unusedVariables false
namespace Go.Proofs.YtnmignkabcblgaaDoor.E
open Go Go.RowKit

/-- The blocks of H, but for those in X, stand in H' as they stood. -/
structure Fr (X : List Nat) (H H' : Heap) : Prop where
  len : H.length ≤ H'.length
  same : ∀ b : Nat, b < H.length → b ∉ X → H'[b]? = H[b]?

theorem lt_of_get {H : Heap} {b : Nat} {x : HB} (h : H[b]? = some x) : b < H.length := (List.getElem?_eq_some_iff.1 h).1

namespace Fr
theorem refl (X : List Nat) (H : Heap) : Fr X H H := ⟨Nat.le_refl _, fun _ _ _ => rfl⟩
theorem trans {X Y : List Nat} {H H' H'' : Heap} (h : Fr X H H') (k : Fr Y H' H'') (hy : ∀ b ∈ Y, b ∈ X ∨ H.length ≤ b) : Fr X H H'' :=
  ⟨Nat.le_trans h.len k.len, fun b hb hx => by
    rw [k.same b (Nat.lt_of_lt_of_le hb h.len) fun hm => (hy b hm).elim hx fun h => absurd hb (by omega)]
    exact h.same b hb hx⟩
theorem get {X : List Nat} {H H' : Heap} (h : Fr X H H') {b : Nat} {x : HB} (hb : H[b]? = some x) (hx : b ∉ X) : H'[b]? = some x := by
  rw [h.same b (lt_of_get hb) hx]; exact hb
theorem app (H G : Heap) : Fr [] H (H ++ G) := ⟨by simp, fun b hb _ => List.getElem?_append_left hb⟩
theorem set (H : Heap) (b : Nat) (x : HB) : Fr [b] H (H.set b x) := ⟨by simp, fun b' _ hx => by
  rw [List.getElem?_set_ne]; rintro rfl; exact hx (List.mem_singleton.2 rfl)⟩
theorem mono {X Y : List Nat} {H H' : Heap} (h : Fr X H H') (hs : ∀ b ∈ X, b ∈ Y ∨ H.length ≤ b) : Fr Y H H' :=
  ⟨h.len, fun b hb hy => h.same b hb fun hm => (hs b hm).elim hy fun h => absurd hb (by omega)⟩
end Fr

/-- A slice that can be read, and its cells. -/
inductive Sees (M : Addr → Option AV) (H : Heap) (sz : Nat) : AV → List AV → Prop
  | nil : Sees M H sz .nilslice []
  | old (a : Addr) (n c : Nat) (cells : List AV) (h1 : cells.length = n * sz) (h2 : At M a cells) (h3 : n ≤ c) : Sees M H sz (.oslice a n c) cells
  | own (b e off n : Nat) (cap : Option Nat) (cs : List AV) (el : TypeId) (ep sep : Nat) (cells : List AV) (h1 : H[b]? = some (.c cs el ep sep)) (h2 : sep ≤ e) (h3 : off + n * sz ≤ cs.length) (h4 : cells = (cs.drop off).take (n * sz)) : Sees M H sz (.slice b e off sz n cap) cells

/-- The place of a slice's element. -/
def placeA (v : AV) (i sz : Nat) : AV :=
  match v with
  | .slice b e off _ _ _ => .ptr b e (off + i * sz)
  | .oslice a _ _ => .optr (a.add (i * sz))
  | _ => .nilptr

namespace Sees
variable {T : Tab} {M : Addr → Option AV} {H : Heap} {sz : Nat} {v : AV} {cells : List AV} {i j : TI} {t el : TypeId}

theorem len {n : Nat} (h : Sees M H sz v cells) (hn : cells.length = n * sz) (hz : 0 < sz) : lenA v = some n := by
  cases h with
  | nil => simp only [List.length_nil] at hn; rcases Nat.mul_eq_zero.1 hn.symm with h | h
           · subst h; rfl
           · omega
  | old a n' c _ h1 => rw [h1] at hn; rw [Nat.eq_of_mul_eq_mul_right hz hn]; rfl
  | own b e off n' cap cs el ep sep _ h1 h2 h3 h4 =>
    have : cells.length = n' * sz := by rw [h4]; simp only [List.length_take, List.length_drop]; omega
    rw [this] at hn; rw [Nat.eq_of_mul_eq_mul_right hz hn]; rfl

theorem lenB {n : Nat} {ts : List TypeId} (h : Sees M H sz v cells) (hn : cells.length = n * sz) (hz : 0 < sz) (ht : T t = some i) (hi : i.und = .slice el) : E.lenB T (t :: ts) v = some (.int .i64 n) := by
  have := h.len hn hz
  cases h with
  | nil => simp only [lenA, Option.some.injEq] at this; subst this; simp only [E.lenB, ht, hi]; rfl
  | old a n' c _ h1 => simp only [lenA, Option.some.injEq] at this; subst this; simp only [E.lenB, ht, hi]
  | own b e off n' cap cs el ep sep _ h1 h2 h3 h4 => simp only [lenA, Option.some.injEq] at this; subst this; simp only [E.lenB, ht, hi]

theorem cells_eq (h : Sees M H sz v cells) : sliceCells M H v sz = some cells := by
  cases h with
  | nil => rfl
  | old a n c _ h1 h2 =>
    simp only [sliceCells]
    rw [← h1]
    have key : ∀ (l : List AV) (k : Nat), (∀ i v, l[i]? = some v → M (a.add (k + i)) = some v) → (List.range' k l.length).mapM (fun i => M (a.add i)) = some l := by
      intro l
      induction l with
      | nil => intro k _; rfl
      | cons x l ih =>
        intro k hk
        rw [List.length_cons, List.range'_succ, List.mapM_cons]
        have h0 := hk 0 x rfl
        rw [Nat.add_zero] at h0
        rw [h0]
        have h1 := ih (k + 1) fun i v hv => by have := hk (i + 1) v (by simpa using hv); rwa [show k + (i + 1) = k + 1 + i by omega] at this
        rw [h1]; rfl
    rw [List.range_eq_range']
    exact key cells 0 fun i v hv => by rw [Nat.zero_add]; exact h2 i v hv
  | own b e off n cap cs el ep sep _ h1 h2 h3 h4 =>
    simp only [sliceCells, if_true]
    split
    · rename_i h0; subst h0; rw [h4]; simp
    · rw [h1]; simp only; rw [if_pos ⟨h2, h3⟩, h4]

theorem index {k : IntKind} {n : Int} (h : Sees M H sz v cells) (h0 : 0 ≤ n) (hn : n.toNat * sz < cells.length) (hz : sz ≠ 0) (ht : T t = some i) (hi : i.und = .slice el) (he : T el = some j) (hj : j.size = sz) : indexAddrA T H t v (.int k n) = some (placeA v n.toNat sz) := by
  cases h with
  | nil => simp at hn
  | old a n' c _ h1 h2 =>
    have : n < n' := by
      have : n.toNat < n' := by rw [h1] at hn; exact Nat.lt_of_mul_lt_mul_right hn
      omega
    simp only [indexAddrA, ht, hi, he]
    rw [if_pos ⟨h0, this⟩, hj]; rfl
  | own b e off n' cap cs el ep sep _ h1 h2 h3 h4 =>
    have hl : cells.length = n' * sz := by rw [h4]; simp only [List.length_take, List.length_drop]; omega
    have : n < n' := by
      have : n.toNat < n' := by rw [hl] at hn; exact Nat.lt_of_mul_lt_mul_right hn
      omega
    simp only [indexAddrA, ht, hi, he]
    rw [if_pos ⟨hj, hz, h0, this⟩]; rfl

theorem load {n : Nat} {x : AV} (h : Sees M H 1 v cells) (hx : cells[n]? = some x) (he : T el = some j) (hj : isAggT j.und = false) : loadA T M H el (placeA v n 1) = some x := by
  cases h with
  | nil => simp at hx
  | old a n' c _ h1 h2 =>
    have := h2 n x hx
    simp only [loadA, he, hj, placeA, Nat.mul_one, readN]
    rw [if_neg (by simp)]
    rw [show List.range 1 = [0] from rfl]
    simp only [List.mapM_cons, List.mapM_nil]
    have e : ((a.add n).add 0) = a.add n := by unfold Addr.add; cases a with | mk b o s => cases s <;> simp
    rw [e, this]; rfl
  | own b e off n' cap cs el' ep sep _ h1 h2 h3 h4 =>
    have hlt : n < n' * 1 := by
      have := (List.getElem?_eq_some_iff.1 hx).1
      rw [h4, List.length_take] at this; omega
    have hv : cs[off + n]? = some x := by
      rw [h4, List.getElem?_take, if_pos hlt, List.getElem?_drop] at hx; exact hx
    have hl := (List.getElem?_eq_some_iff.1 hv).1
    have hr : readN M H (.ptr b e (off + n)) 1 = some [x] := by
      have hd : (cs.drop (off + n)).take 1 = [x] := by
        rw [List.drop_eq_getElem_cons hl]
        have h9 := (List.getElem?_eq_some_iff.1 hv).2
        rw [h9]; rfl
      simp only [readN, h1]
      split
      · rw [if_pos (by omega), hd]
      · rw [if_pos ⟨h2, trivial⟩, hv]; rfl
    simp only [loadA, he, hj, placeA, Nat.mul_one, hr]
    rw [if_neg (by simp)]

theorem mono {X : List Nat} {H' : Heap} (h : Sees M H sz v cells) (hf : Fr X H H') (hx : ∀ b e off s n c, v = .slice b e off s n c → b ∉ X) : Sees M H' sz v cells := by
  cases h with
  | nil => exact .nil
  | old a n c _ h1 h2 h3 => exact .old a n c _ h1 h2 h3
  | own b e off n cap cs el ep sep _ h1 h2 h3 h4 => exact .own b e off n cap cs el ep sep _ (hf.get h1 (hx _ _ _ _ _ _ rfl)) h2 h3 h4

/-- What is plain looks the same from the world as it stands. -/
theorem view {ρ : Asg} {W0 W : World} (h : Sees M H sz v cells) (hp : cells.all plainA = true) (hM : MOK M W0) (hR : Rel ρ H W0 W) {cv : Value} (hv : VR ρ v cv) (G : Heap) : Sees (oldM W) G sz (absC cv) cells := by
  cases h with
  | nil => rw [plain_abs rfl hv]; exact .nil
  | old a n c _ h1 h2 h3 =>
    simp only [VR] at hv; subst hv
    exact .old a n c _ h1 (view_old hM hR h2 hp) h3
  | own b e off n cap cs el ep sep _ h1 h2 h3 h4 =>
    obtain ⟨a, c, e1, e2, e3⟩ := view_slice hR hv h1 h2 h4 hp
    rw [e1]
    exact .old a n c _ (by rw [h4]; simp only [List.length_take, List.length_drop]; omega) e3 e2
end Sees

/-- A slice that starts its block and may grow: nil, of a block of its own, or an empty literal. -/
inductive Rep (el : TypeId) (sz : Nat) (H : Heap) : AV → Option Nat → List AV → Prop
  | nil : Rep el sz H .nilslice none []
  | own (b ep sep n : Nat) (cells : List AV) (h1 : H[b]? = some (.c cells el ep sep)) (h2 : sep ≤ ep) (h3 : cells.length = n * sz) : Rep el sz H (.slice b ep 0 sz n none) (some b) cells
  | empty (b ep sep : Nat) (h1 : H[b]? = some (.c [] el ep sep)) (h2 : sep ≤ ep) : Rep el sz H (.slice b ep 0 sz 0 (some 0)) (some b) []

namespace Rep
variable {T : Tab} {M : Addr → Option AV} {H : Heap} {sz : Nat} {v : AV} {o : Option Nat} {cells : List AV} {i j : TI} {t el : TypeId}

theorem sees (h : Rep el sz H v o cells) : Sees M H sz v cells := by
  cases h with
  | nil => exact .nil
  | own b ep sep n _ h1 h2 h3 => exact .own b ep 0 n none cells el ep sep cells h1 h2 (by omega) (by rw [← h3]; simp)
  | empty b ep sep h1 h2 => exact .own b ep 0 0 (some 0) [] el ep sep [] h1 h2 (by simp) (by simp)

theorem lt (h : Rep el sz H v o cells) {b : Nat} (hb : o = some b) : b < H.length := by
  cases h with
  | nil => cases hb
  | own b' ep sep n _ h1 h2 h3 => cases hb; exact lt_of_get h1
  | empty b' ep sep h1 h2 => cases hb; exact lt_of_get h1

theorem mono {X : List Nat} {H' : Heap} (h : Rep el sz H v o cells) (hf : Fr X H H') (hx : ∀ b, o = some b → b ∉ X) : Rep el sz H' v o cells := by
  cases h with
  | nil => exact .nil
  | own b ep sep n _ h1 h2 h3 => exact .own b ep sep n _ (hf.get h1 (hx _ rfl)) h2 h3
  | empty b ep sep h1 h2 => exact .empty b ep sep (hf.get h1 (hx _ rfl)) h2

/-- The block is the same, or a new one. -/
def New (H : Heap) (o o' : Option Nat) : Prop := o' = o ∨ ∃ b, o' = some b ∧ H.length ≤ b

theorem append {t2 : TypeId} {i2 : TI} {ts : List TypeId} {x : AV} {n : Nat} {new : List AV} (h : Rep el sz H v o cells) (ht : T t = some i) (hi : i.und = .slice el) (ht2 : T t2 = some i2) (hi2 : isIntT i2.und = false) (he : T el = some j) (hj : j.size = sz) (hz : sz ≠ 0) (hb : j.bytes ≠ 0) (hzero : (cellsOf (absC j.zero)).length = sz)
    (hx : lenA x = some n) (hc : sliceCells M H x sz = some new) (hcell : new.all isCell = true) (hn : new.length = n * sz) (hcells : cells.all isCell = true) (room : (cells.length + new.length) * j.bytes ≤ sz * 140737488355328) :
    ∃ v' o' H', appendA T M H (t :: t2 :: ts) v x = some (v', H') ∧ Rep el sz H' v' o' (cells ++ new) ∧ Fr o.toList H H' ∧ New H o o' := by
  have hg : ¬ (j.size = 0 ∨ j.bytes = 0 ∨ (cellsOf (absC j.zero)).length ≠ j.size ∨ new.all isCell ≠ true ∨ new.length ≠ n * j.size) := by
    rw [hj]; simp [hz, hb, hzero, hcell, hn]
  have hroom : ∀ m, cells.length = m * sz → (m + n) * j.bytes ≤ 140737488355328 := fun m hm => by
    rw [hm, hn, ← Nat.add_mul] at room
    have h5 : sz * ((m + n) * j.bytes) ≤ sz * 140737488355328 := by
      calc sz * ((m + n) * j.bytes) = (m + n) * sz * j.bytes := by rw [Nat.mul_comm (m + n) sz, Nat.mul_assoc]
        _ ≤ _ := room
    exact Nat.le_of_mul_le_mul_left h5 (Nat.pos_of_ne_zero hz)
  simp only [appendA, ht, ht2, hi2, hi, he, hx, hj, hc, if_neg Bool.false_ne_true]
  rw [hj] at hg
  rw [if_neg hg]
  by_cases h0 : n = 0
  · subst h0
    have hnew : new = [] := List.eq_nil_of_length_eq_zero (by omega)
    subst hnew
    rw [if_pos rfl, List.append_nil]
    refine ⟨v, o, H, ?_, h, Fr.refl _ _, .inl rfl⟩
    cases h <;> rfl
  · rw [if_neg h0]
    cases h with
    | nil =>
      have := hroom 0 (by simp)
      simp only [Nat.zero_add] at this
      refine ⟨_, _, _, if_pos this, ?_, Fr.app _ _, .inr ⟨H.length, rfl, Nat.le_refl _⟩⟩
      exact .own H.length 0 0 n _ (by simp) (Nat.le_refl _) (by simpa using hn)
    | own b ep sep m _ h1 h2 h3 =>
      have := hroom m h3
      refine ⟨.slice b (ep + 1) 0 sz (m + n) none, some b, H.set b (.c (cells.take (m * sz) ++ new) el (ep + 1) (if ep = ep ∧ m * sz = cells.length then sep else ep + 1)), ?_, ?_, Fr.set _ _ _, .inl rfl⟩
      · simp only [ne_eq, not_true_eq_false, or_self, if_false, h1]
        rw [if_pos ⟨h2, trivial, by omega, this⟩]
      · have e : cells.take (m * sz) = cells := by rw [← h3]; simp
        rw [e, if_pos ⟨by first | rfl | trivial, h3.symm⟩]
        exact .own b (ep + 1) sep (m + n) _ (by rw [List.getElem?_set_self (lt_of_get h1)]) (by omega) (by rw [List.length_append, h3, hn, Nat.add_mul])
    | empty b ep sep h1 h2 =>
      have := hroom 0 (by simp)
      simp only [Nat.zero_add] at this
      refine ⟨.slice H.length 0 0 sz n none, some H.length, H ++ [.c new el 0 0], ?_, ?_, (Fr.app _ _).mono (by simp), .inr ⟨H.length, rfl, Nat.le_refl _⟩⟩
      · simp only [ne_eq, not_true_eq_false, if_false, h1, Nat.zero_add]
        rw [if_neg (by omega)]
        simp only [sliceCells, if_true, List.length_nil, Nat.zero_mul, List.all_nil, List.nil_append, true_and]
        rw [if_pos this]
      · exact .own H.length 0 0 n _ (by simp) (Nat.le_refl _) (by simpa using hn)

/-- One more round: what one slice owns is not what another owns. -/
theorem New.ne {o o' : Option Nat} (h : New H o o') {b : Nat} (hb : b < H.length) (hne : o ≠ some b) : o' ≠ some b := by
  rcases h with rfl | ⟨c, rfl, hc⟩
  · exact hne
  · intro e; cases e; omega
end Rep

end Go.Proofs.YtnmignkabcblgaaDoor.E
