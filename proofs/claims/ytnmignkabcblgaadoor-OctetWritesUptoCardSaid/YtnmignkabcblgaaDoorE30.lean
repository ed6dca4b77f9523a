/- Part of a claim: a slice of elements of several cells in old memory. Nothing of a program stands here. -/
import Derived.Test.YtnmignkabcblgaaDoorE29
set_option linter.unusedSimpArgs false
set_option linter.unusedVariables false
namespace Go.Proofs.YtnmignkabcblgaaDoor.E
open Go Go.RowKit

inductive OldS (M : Addr → Option AV) (sz : Nat) : AV → List (List AV) → Prop
  | nil : OldS M sz .nilslice []
  | old (a : Addr) (c : Nat) (l : List (List AV)) (h1 : ∀ e ∈ l, e.length = sz) (h2 : ∀ (i : Nat) (e : List AV) (j : Nat) (x : AV), l[i]? = some e → e[j]? = some x → M ((a.add (i * sz)).add j) = some x) : OldS M sz (.oslice a l.length c) l

namespace OldS
variable {T : Tab} {M : Addr → Option AV} {H : Heap} {sz : Nat} {v : AV} {l : List (List AV)} {i j : TI} {t el : TypeId}

theorem len {ts : List TypeId} (h : OldS M sz v l) (ht : T t = some i) (hi : i.und = .slice el) : lenB T (t :: ts) v = some (.int .i64 l.length) := by
  cases h with
  | nil => simp only [lenB, ht, hi]; rfl
  | old a c _ h1 h2 => simp only [lenB, ht, hi]

theorem index {k : IntKind} {n : Int} (h : OldS M sz v l) (h0 : 0 ≤ n) (hn : n.toNat < l.length) (ht : T t = some i) (hi : i.und = .slice el) (he : T el = some j) (hj : j.size = sz) : indexAddrA T H t v (.int k n) = some (placeA v n.toNat sz) := by
  cases h with
  | nil => simp at hn
  | old a c _ h1 h2 =>
    simp only [indexAddrA, ht, hi, he]
    rw [if_pos ⟨h0, by omega⟩, hj]; rfl

theorem load {n : Nat} {e : List AV} (h : OldS M sz v l) (hx : l[n]? = some e) (he : T el = some j) (hj : isAggT j.und = true) (hs : j.size = sz) : loadA T M H el (placeA v n sz) = some (.agg e) := by
  cases h with
  | nil => simp at hx
  | old a c _ h1 h2 =>
    have hl := h1 e (List.mem_of_getElem? hx)
    simp only [loadA, he, hj, placeA, if_true, readN, hs]
    have key : ∀ (r : List AV) (k : Nat), (∀ i v, r[i]? = some v → M ((a.add (n * sz)).add (k + i)) = some v) → (List.range' k r.length).mapM (fun i => M ((a.add (n * sz)).add i)) = some r := by
      intro r
      induction r with
      | nil => intro k _; rfl
      | cons x r ih =>
        intro k hk
        rw [List.length_cons, List.range'_succ, List.mapM_cons]
        have h0 := hk 0 x rfl
        rw [Nat.add_zero] at h0
        rw [h0]
        have h1 := ih (k + 1) fun i v hv => by have := hk (i + 1) v (by simpa using hv); rwa [show k + (i + 1) = k + 1 + i by omega] at this
        rw [h1]; rfl
    rw [List.range_eq_range', ← hl, hl, ← hl]
    have := key e 0 fun i v hv => by rw [Nat.zero_add]; exact h2 n e i v hx hv
    rw [hl] at this
    rw [hl, this]; rfl

/-- A single cell each. -/
theorem load1 {n : Nat} {x : AV} (h : OldS M 1 v l) (hx : l[n]? = some [x]) (he : T el = some j) (hj : isAggT j.und = false) : loadA T M H el (placeA v n 1) = some x := by
  cases h with
  | nil => simp at hx
  | old a c _ h1 h2 =>
    have := h2 n [x] 0 x hx rfl
    simp only [loadA, he, hj, placeA, readN]
    rw [if_neg (by simp)]
    simp only [show List.range 1 = [0] from rfl, List.mapM_cons, List.mapM_nil, this]
    rfl
end OldS

end Go.Proofs.YtnmignkabcblgaaDoor.E
