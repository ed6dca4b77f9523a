/- Part of a claim: what a row's reading says of arguments: pieces, and the ranges of their numbers. -/
import Derived.Test.YtnmignkabcblgaaDoorB5
import Derived.Test.YtnmignkabcblgaaDoorC36
import Derived.ChangeSlices
set_option linter.unusedSimpArgs false
set_option linter.unusedVariables false
namespace Go.Proofs.YtnmignkabcblgaaDoor.C
open Go Go.RowKit Go.Proofs.YtnmignkabcblgaaDoor.E Go.Proofs.YtnmignkabcblgaaDoor.B Go.ChangeShapes Go.WideShapes Go.ChangeAt

theorem trod_float' {H : Type} {enc : TypeId × Value → H} {P : Program} {w : World} {base : Nat} {sp : Nat → Bool} {held : Bool} {fuel : Nat} {t : TypeId} {k : FloatKind} {cs : List Value} {x : DataW H × List MemPlace} (ht : P.underlying t = some (.float k)) (h : DataW.trod enc P w base sp held fuel t cs = some x) : ∃ b, cs = [.float k b] ∧ (Lit.float k b).wf = true := by
  cases fuel with
  | zero => simp [DataW.trod] at h
  | succ n =>
    unfold DataW.trod at h
    simp only [ht] at h
    split at h <;> simp_all
    all_goals (obtain ⟨⟨rfl, hw⟩, _⟩ := h; exact ⟨_, ⟨rfl, rfl⟩, hw⟩)

/-- The ranges. -/
def Rng (p : Piece) : Prop := 0 ≤ p.n ∧ p.n < 18446744073709551616 ∧ p.f < 2 ^ 64 ∧ p.g < 2 ^ 32

theorem bulk_one {H : Type} (d : DataW H) : 1 ≤ Rows.uptoBulk d := by
  cases d with
  | lit l => cases l <;> simp [Rows.uptoBulk]
  | nil => simp [Rows.uptoBulk]
  | ptr d => simp [Rows.uptoBulk]
  | slice elems spare => simp [Rows.uptoBulk]
  | agg parts => simp [Rows.uptoBulk]
  | iface t d => simp [Rows.uptoBulk]
  | map entries => simp [Rows.uptoBulk]
  | held h => simp [Rows.uptoBulk]

set_option maxRecDepth 100000 in
/-- A piece's cells. -/
theorem piece_trod {H : Type} {enc : TypeId × Value → H} {W : World} {base : Nat} {sp : Nat → Bool} {held : Bool} {fuel : Nat} {cs : List Value} {x : DataW H × List MemPlace} (h : DataW.trod enc Tryd.prog W base sp held fuel 32 cs = some x) :
    ∃ p : Piece, cs = [.int .i64 p.k, .int .u64 p.n, .float .f64 p.f, .float .f32 p.g, .string ⟨⟨p.s⟩⟩] ∧ 8 + p.s.length ≤ 2 * Rows.uptoBulk x.1 ∧ Rng p := by
  have hu : Tryd.prog.underlying 32 = some (.struct #[{ name := "Kind", type := 3, offset := 0, embedded := false, tag := "", pkgPath := "", byteOffset := 0 }, { name := "N", type := 28, offset := 1, embedded := false, tag := "", pkgPath := "", byteOffset := 8 }, { name := "F", type := 29, offset := 2, embedded := false, tag := "", pkgPath := "", byteOffset := 16 }, { name := "G", type := 30, offset := 3, embedded := false, tag := "", pkgPath := "", byteOffset := 24 }, { name := "S", type := 9, offset := 4, embedded := false, tag := "", pkgPath := "", byteOffset := 32 }]) := by kernel_rfl
  obtain ⟨xs, m, _, rfl, hl, hx, hf⟩ := DataW.trod_struct hu h
  have hc : ∀ t, t = 3 ∨ t = 28 ∨ t = 29 ∨ t = 30 ∨ t = 9 → Tryd.prog.cellsOf t = 1 := fun t ht => by rcases ht with rfl | rfl | rfl | rfl | rfl <;> kernel_rfl
  have hx5 : xs.length = 5 := hx
  have get : ∀ i, i < 5 → ∃ y, xs[i]? = some y := fun i hi => ⟨xs[i]'(by omega), by simp⟩
  obtain ⟨y0, g0⟩ := get 0 (by omega)
  obtain ⟨y1, g1⟩ := get 1 (by omega)
  obtain ⟨y2, g2⟩ := get 2 (by omega)
  obtain ⟨y3, g3⟩ := get 3 (by omega)
  obtain ⟨y4, g4⟩ := get 4 (by omega)
  obtain ⟨k, e0, _⟩ := DataW.trod_int (k := .i64) (by kernel_rfl) ((hf 0 _ rfl).trans g0)
  obtain ⟨n, e1, _, wn⟩ := DataW.trod_int (k := .u64) (by kernel_rfl) ((hf 1 _ rfl).trans g1)
  obtain ⟨f, e2, wf⟩ := trod_float' (k := .f64) (by kernel_rfl) ((hf 2 _ rfl).trans g2)
  obtain ⟨g, e3, wg⟩ := trod_float' (k := .f32) (by kernel_rfl) ((hf 3 _ rfl).trans g3)
  obtain ⟨s, e4, e5, _⟩ := DataW.trod_string (by kernel_rfl) ((hf 4 _ rfl).trans g4)
  rw [hc _ (by simp)] at e0 e1 e2 e3 e4
  have hl5 : cs.length = 5 := hl.trans (by kernel_rfl)
  have hrng : Rng ⟨k, n, f, g, s.data.toList⟩ := by
    have h1 : (decide (IntKind.min .u64 ≤ n) && decide (n ≤ IntKind.max .u64)) = true := wn
    have h2 : decide (f < 2 ^ 64) = true := wf
    have h3 : decide (g < 2 ^ 32) = true := wg
    have m1 : IntKind.min .u64 = 0 := by decide
    have m2 : IntKind.max .u64 = 18446744073709551615 := by decide
    simp only [Bool.and_eq_true, decide_eq_true_eq] at h1 h2 h3
    exact ⟨by show 0 ≤ n; omega, by show n < _; omega, h2, h3⟩
  refine ⟨⟨k, n, f, g, s.data.toList⟩, five _ hl5 e0 e1 e2 e3 e4, ?_, hrng⟩
  have hxs : xs = [y0, y1, y2, y3, y4] := by
    refine List.ext_getElem? fun i => ?_
    match i with
    | 0 => exact g0
    | 1 => exact g1
    | 2 => exact g2
    | 3 => exact g3
    | 4 => exact g4
    | i + 5 => rw [List.getElem?_eq_none (by omega)]; rfl
  have b0 := bulk_one y0.1
  have b1 := bulk_one y1.1
  have b2 := bulk_one y2.1
  have b3 := bulk_one y3.1
  have b4 : Rows.uptoBulk y4.1 = s.data.toList.length + 1 := by rw [e5]; simp [Rows.uptoBulk]
  simp only [hxs, List.map_cons, List.map_nil, Rows.uptoBulk, Rows.uptoBulkAll]
  omega

theorem bulk_map {H : Type} : ∀ (l : List (DataW H × List MemPlace)) (ps : List Piece), l.length = ps.length → (∀ (i : Nat) (x : DataW H × List MemPlace) (p : Piece), l[i]? = some x → ps[i]? = some p → 8 + p.s.length ≤ 2 * Rows.uptoBulk x.1) → room ps ≤ 2 * Rows.uptoBulkAll (l.map (·.1))
  | [], [], _, _ => by simp [room]
  | [], _ :: _, h, _ => by simp at h
  | _ :: _, [], h, _ => by simp at h
  | x :: l, p :: ps, h, hb => by
    have h1 := bulk_map l ps (by simpa using h) fun i y q hy hq => hb (i + 1) y q (by simpa using hy) (by simpa using hq)
    have h2 := hb 0 x p rfl rfl
    simp only [room, List.map_cons, List.sum_cons, Rows.uptoBulkAll] at h1 ⊢
    omega

theorem cells_get {W : World} {base : Nat} {a : Addr} {n : Nat} {cs : List Value} (h : W.cells? base a n = some cs) : cs.length = n ∧ ∀ (j : Nat) (v : Value), cs[j]? = some v → W.cell? (a.add j) = some v := by
  unfold World.cells? at h
  split at h
  · rename_i hb
    have hl := Lib.mapM_length h
    simp only [List.length_range] at hl
    refine ⟨by omega, fun j v hv => ?_⟩
    have hj : j < n := by
      have := (List.getElem?_eq_some_iff.1 hv).1
      omega
    obtain ⟨b, hb1, hb2⟩ := Lib.mapM_at h j j (by simp [hj])
    rw [hb1] at hv; cases hv; exact hb2
  · cases h

theorem choose_list {α β : Type} {R : α → β → Prop} : ∀ (l : List α), (∀ (i : Nat) (x : α), l[i]? = some x → ∃ y, R x y) → ∃ r : List β, r.length = l.length ∧ ∀ (i : Nat) (x : α) (y : β), l[i]? = some x → r[i]? = some y → R x y
  | [], _ => ⟨[], rfl, fun i x y h => by simp at h⟩
  | x :: l, h => by
    obtain ⟨y, hy⟩ := h 0 x rfl
    obtain ⟨r, hr1, hr2⟩ := choose_list l fun i z hz => h (i + 1) z (by simpa using hz)
    refine ⟨y :: r, by simp [hr1], fun i a b ha hb => ?_⟩
    cases i with
    | zero => simp at ha hb; subst ha hb; exact hy
    | succ i => exact hr2 i a b (by simpa using ha) (by simpa using hb)

set_option maxRecDepth 100000 in
/-- A row of pieces, opened. -/
theorem open_pieces {H : Type} {enc : TypeId × Value → H} {W : World} {r : Reach} {b0 : Nat} {sp : Nat → Bool} {v : Value} {d : DataW H} {ps : List MemPlace} (hval : Value.okWide Tryd.prog W r b0 22 v) (h : DataW.Trod enc Tryd.prog W 0 sp true 22 v d ps) :
    ∃ l : List Piece, OldS (oldM W) 5 (absC v) (l.map Piece.cells) ∧ room l ≤ 2 * Rows.uptoBulk d ∧ ∀ p ∈ l, Rng p := by
  have hu : Tryd.prog.underlying 22 = some (.slice 32) := by kernel_rfl
  have hce : Tryd.prog.cellsOf 32 = 5 := by kernel_rfl
  obtain ⟨a0, n0, c0, rfl⟩ := okWide_slice hu hval
  obtain ⟨fuel, h⟩ := h
  rcases DataW.trod_slice hu h with ⟨h0, h1⟩ | ⟨a, len, cap, elems, rest, n, _, hcs, hx, _, hlc, _, hel, hget, _⟩
  · have e : (Value.slice a0 n0 c0) = .slice none 0 0 := by
      have : [Value.slice a0 n0 c0] = [Value.slice none 0 0] := h0
      simpa using this
    rw [e]
    exact ⟨[], .nil, by simp [room], by simp⟩
  · have e : (Value.slice a0 n0 c0) = .slice (some a) len cap := by
      have : [Value.slice a0 n0 c0] = [Value.slice (some a) len cap] := hcs
      simpa using this
    rw [e]
    have hd : d = .slice (elems.map (·.1)) (rest.map (·.1)) := congrArg Prod.fst hx
    have one : ∀ (i : Nat) (x : DataW H × List MemPlace), elems[i]? = some x → ∃ p : Piece, (∃ cs, Tryd.prog.cellsOf 32 = 5 ∧ W.cells? 0 (a.add (i * 5)) 5 = some cs ∧ cs = [.int .i64 p.k, .int .u64 p.n, .float .f64 p.f, .float .f32 p.g, .string ⟨⟨p.s⟩⟩]) ∧ 8 + p.s.length ≤ 2 * Rows.uptoBulk x.1 ∧ Rng p := fun i x hx => by
      have hi : i < len := by rw [← hel]; exact (List.getElem?_eq_some_iff.1 hx).1
      have := hget i hi
      rw [hx, hce, Option.bind_eq_some_iff] at this
      obtain ⟨cs, h1, h2⟩ := this
      obtain ⟨p, hp1, hp2⟩ := piece_trod h2
      exact ⟨p, ⟨cs, hce, h1, hp1⟩, hp2⟩
    have ex : ∃ l : List Piece, l.length = elems.zipIdx.length ∧ ∀ (i : Nat) (x : (DataW H × List MemPlace) × Nat) (p : Piece), elems.zipIdx[i]? = some x → l[i]? = some p → (∃ cs, W.cells? 0 (a.add (x.2 * 5)) 5 = some cs ∧ cs = [.int .i64 p.k, .int .u64 p.n, .float .f64 p.f, .float .f32 p.g, .string ⟨⟨p.s⟩⟩]) ∧ 8 + p.s.length ≤ 2 * Rows.uptoBulk x.1.1 ∧ Rng p := by
      refine choose_list (R := fun (x : (DataW H × List MemPlace) × Nat) (p : Piece) => (∃ cs, W.cells? 0 (a.add (x.2 * 5)) 5 = some cs ∧ cs = [.int .i64 p.k, .int .u64 p.n, .float .f64 p.f, .float .f32 p.g, .string ⟨⟨p.s⟩⟩]) ∧ 8 + p.s.length ≤ 2 * Rows.uptoBulk x.1.1 ∧ Rng p) elems.zipIdx fun i x hx => ?_
      rw [List.getElem?_zipIdx] at hx
      cases he : elems[i]? with
      | none => rw [he] at hx; cases hx
      | some y =>
        rw [he] at hx; cases hx
        obtain ⟨p, ⟨cs, _, h1, h2⟩, h3⟩ := one i y he
        exact ⟨p, ⟨cs, by simpa using h1, h2⟩, h3⟩
    obtain ⟨l, hl1, hl2⟩ := ex
    rw [List.length_zipIdx] at hl1
    have hll : l.length = len := hl1.trans hel
    have hpt : ∀ (i : Nat) (p : Piece), l[i]? = some p → (∃ cs, W.cells? 0 (a.add (i * 5)) 5 = some cs ∧ cs = [.int .i64 p.k, .int .u64 p.n, .float .f64 p.f, .float .f32 p.g, .string ⟨⟨p.s⟩⟩]) := fun i p hp => by
      have hi : i < elems.length := by rw [← hl1]; exact (List.getElem?_eq_some_iff.1 hp).1
      have := (hl2 i (elems[i], i) p (by rw [List.getElem?_zipIdx, List.getElem?_eq_getElem hi]; simp) hp).1
      simpa using this
    refine ⟨l, ?_, ?_, ?_⟩
    · have := OldS.old (M := oldM W) (sz := 5) a cap (l.map Piece.cells) (by
        intro e he
        obtain ⟨p, _, rfl⟩ := List.mem_map.1 he
        rfl) (by
        intro i e j x he hx
        rw [List.getElem?_map, Option.map_eq_some_iff] at he
        obtain ⟨p, hp, rfl⟩ := he
        obtain ⟨cs, h1, h2⟩ := hpt i p hp
        obtain ⟨_, h3⟩ := cells_get h1
        have h4 : ∃ cv, cs[j]? = some cv ∧ absC cv = x := by
          subst h2
          match j with
          | 0 => simp [Piece.cells] at hx; subst hx; exact ⟨_, rfl, rfl⟩
          | 1 => simp [Piece.cells] at hx; subst hx; exact ⟨_, rfl, rfl⟩
          | 2 => simp [Piece.cells] at hx; subst hx; exact ⟨_, rfl, rfl⟩
          | 3 => simp [Piece.cells] at hx; subst hx; exact ⟨_, rfl, rfl⟩
          | 4 => simp [Piece.cells] at hx; subst hx; exact ⟨_, rfl, rfl⟩
          | j + 5 => simp [Piece.cells] at hx
        obtain ⟨cv, h5, h6⟩ := h4
        unfold oldM
        rw [h3 j cv h5, ← h6]; rfl)
      rw [List.length_map, hll] at this
      exact this
    · have h3 := bulk_map elems l (by omega) fun i x p hx hp => by
        have := (hl2 i (x, i) p (by rw [List.getElem?_zipIdx, hx]; simp) hp).2.1
        exact this
      rw [hd]
      simp only [Rows.uptoBulk]
      omega
    · intro p hp
      obtain ⟨i, hi⟩ := List.mem_iff_getElem?.1 hp
      have hil : i < elems.length := by rw [← hl1]; exact (List.getElem?_eq_some_iff.1 hi).1
      exact (hl2 i (elems[i], i) p (by rw [List.getElem?_zipIdx, List.getElem?_eq_getElem hil]; simp) hi).2.2

end Go.Proofs.YtnmignkabcblgaaDoor.C
