/- Part of a claim: what a row's reading says of arguments: rows of bytes, and rows of these. -/
import Derived.Test.YtmecikblalignaaDoorCards
import Derived.Test.YtmecikblalignaaDoorED
import Derived.Deep.Slices
import Derived.Test.YtmecikblalignaaDoorY5
set_option linter.unusedSimpArgs false
set_option linter.unusedVariables false
namespace Go.Proofs.YtmecikblalignaaDoor.B
open Go Go.RowKit Go.Proofs.YtmecikblalignaaDoor.E Go.ChangeShapes Go.WideShapes Go.ChangeAt

theorem lits_bulk {H : Type} (k : IntKind) : ∀ zs : List Int, Rows.uptoBulkAll (lits k zs : List (DataW H)) = zs.length
  | [] => rfl
  | z :: zs => by
    have := lits_bulk (H := H) k zs
    show Rows.uptoBulk (DataW.lit (.int k z)) + Rows.uptoBulkAll (lits k zs) = _
    rw [this]
    simp only [Rows.uptoBulk, List.length_cons]
    omega

theorem bulk_one {H : Type} (d : DataW H) : 1 ≤ Rows.uptoBulk d := by
  cases d with
  | lit l => cases l <;> simp [Rows.uptoBulk]
  | nil => simp [Rows.uptoBulk]
  | ptr d => simp [Rows.uptoBulk]
  | slice elems spare => simp [Rows.uptoBulk]
  | agg parts => simp [Rows.uptoBulk]
  | iface t d => simp [Rows.uptoBulk]
  | map entries => simp [Rows.uptoBulk]
  | held h => simp [Rows.uptoBulk]

theorem no_spot {W : World} {a : Addr} {v : Value} (hg : W.cell? a = some v) : a.spot.isSome = false := by
  unfold World.cell? at hg
  split at hg
  · split at hg
    · cases hg
    · rename_i hns; simpa using hns
  · cases hg

set_option maxRecDepth 100000 in
/-- A row of bytes, opened. -/
theorem bytes_trod {H : Type} {enc : TypeId × Value → H} {W : World} {fuel : Nat} {cs : List Value} {x : DataW H × List MemPlace} (h : DataW.trod enc Tryd.prog W 0 (fun _ => true) true fuel 23 cs = some x) :
    ∃ (v : Value) (bs : List UInt8), cs = [v] ∧ (∀ G, Sees (oldM W) G 1 (absC v) (cellsB bs)) ∧ Capped (absC v) ∧ bs.length ≤ Rows.uptoBulk x.1 := by
  have hu : Tryd.prog.underlying 23 = some (.slice 5) := by kernel_rfl
  rcases open_ints (k := .u8) hu (by kernel_rfl) (by kernel_rfl) h with ⟨h0, h1⟩ | ⟨a, len, cap, zs, hcs, _, hlc, _, hzl, hx, hget, hwf⟩
  · exact ⟨_, [], h0, fun G => .nil, (fun b e off sz n c h => by cases h), by simp⟩
  · have hd : x.1 = .slice (lits .u8 (zs.take len)) (lits .u8 (zs.drop len)) := congrArg Prod.fst hx
    have hzl' : zs.length = cap := by simpa using hzl
    refine ⟨_, (zs.take len).map fun z => UInt8.ofNat z.toNat, hcs, fun G => .old a len cap _ (by simp; omega) ?_ hlc, (fun b e off sz n c h => by cases h), ?_⟩
    · intro i x hx2
      have hi : i < len := by
        have := (List.getElem?_eq_some_iff.1 hx2).1
        simp at this; omega
      have hg := hget i (by omega)
      have hz : zs[i]? = some (zs.getD i 0) := by
        rw [List.getD_eq_getElem?_getD, List.getElem?_eq_getElem (by omega)]; rfl
      have hmem : zs.getD i 0 ∈ zs := List.mem_of_getElem? hz
      have hw := hwf _ hmem
      have hr : 0 ≤ zs.getD i 0 ∧ zs.getD i 0 < 256 := by
        have : (decide (IntKind.min .u8 ≤ zs.getD i 0) && decide (zs.getD i 0 ≤ IntKind.max .u8)) = true := hw
        simp only [Bool.and_eq_true, decide_eq_true_eq] at this
        have h1 : IntKind.min .u8 = 0 := by decide
        have h2 : IntKind.max .u8 = 255 := by decide
        omega
      unfold Mc oldM
      rw [no_spot hg, if_neg (by decide), if_neg (by decide), hg]
      have : x = .int .u8 (zs.getD i 0) := by
        rw [List.getElem?_map, List.getElem?_map, List.getElem?_take, if_pos hi, hz] at hx2
        simp only [Option.map_some, Option.some.injEq] at hx2
        rw [← hx2]
        unfold u8
        congr 1
        simp only [UInt8.toNat_ofNat']
        omega
      rw [this]; rfl
    · rw [hd]
      simp only [Rows.uptoBulk, lits_bulk, List.length_map]
      omega

theorem choose_range {R : Nat → List UInt8 → Prop} : ∀ (n : Nat), (∀ i, i < n → ∃ y, R i y) → ∃ r : List (List UInt8), r.length = n ∧ ∀ (i : Nat) (y : List UInt8), r[i]? = some y → R i y
  | 0, _ => ⟨[], rfl, fun i y h => by simp at h⟩
  | n + 1, h => by
    obtain ⟨r, hr1, hr2⟩ := choose_range n fun i hi => h i (by omega)
    obtain ⟨y, hy⟩ := h n (by omega)
    refine ⟨r ++ [y], by simp [hr1], fun i z hz => ?_⟩
    rw [List.getElem?_append] at hz
    split at hz
    · exact hr2 i z hz
    · have hlt := (List.getElem?_eq_some_iff.1 hz).1
      simp only [List.length_singleton] at hlt
      have h0 : i - r.length = 0 := by omega
      rw [h0] at hz
      simp only [List.getElem?_cons_zero, Option.some.injEq] at hz
      subst hz
      have : i = n := by omega
      subst this; exact hy

theorem bulk_flat {H : Type} : ∀ (l : List (DataW H)) (bss : List (List UInt8)), bss.length = l.length → (∀ (i : Nat) (d : DataW H) (bs : List UInt8), l[i]? = some d → bss[i]? = some bs → bs.length ≤ Rows.uptoBulk d) → bss.flatten.length ≤ Rows.uptoBulkAll l ∧ bss.length ≤ Rows.uptoBulkAll l
  | [], [], _, _ => by simp
  | [], _ :: _, h, _ => by simp at h
  | _ :: _, [], h, _ => by simp at h
  | d :: l, bs :: bss, h, hb => by
    have h1 := bulk_flat l bss (by simpa using h) fun i y q hy hq => hb (i + 1) y q (by simpa using hy) (by simpa using hq)
    have h2 := hb 0 d bs rfl rfl
    have h3 := bulk_one d
    simp only [List.flatten_cons, List.length_append, List.length_cons, Rows.uptoBulkAll]
    omega

set_option maxRecDepth 100000 in
/-- A row of rows of bytes, opened. -/
theorem parts_trod {H : Type} {enc : TypeId × Value → H} {W : World} {fuel : Nat} {cs : List Value} {x : DataW H × List MemPlace} (h : DataW.trod enc Tryd.prog W 0 (fun _ => true) true fuel 22 cs = some x) :
    ∃ (v : Value) (vs : List AV) (bss : List (List UInt8)), cs = [v] ∧ (∀ G, Sees (oldM W) G 1 (absC v) vs) ∧ vs.length = bss.length ∧
      (∀ (i : Nat) (y : AV) (bs : List UInt8), vs[i]? = some y → bss[i]? = some bs → ∀ G, Sees (oldM W) G 1 y (cellsB bs)) ∧ bss.flatten.length ≤ Rows.uptoBulk x.1 ∧ bss.length ≤ Rows.uptoBulk x.1 := by
  have hu : Tryd.prog.underlying 22 = some (.slice 23) := by kernel_rfl
  rcases Go.Deep.open_slice1 hu (by kernel_rfl) h with ⟨h0, h1⟩ | ⟨a, len, cap, m, n, V, D, Pl, hcs, _, hlc, _, hm, hx, hget⟩
  · exact ⟨_, [], [], h0, fun G => .nil, rfl, fun i y bs hy => by simp at hy, by simp, by simp⟩
  · have hm' : m = cap := by simpa using hm
    have one : ∀ i, i < len → ∃ bs : List UInt8, (∀ G, Sees (oldM W) G 1 (absC (V i)) (cellsB bs)) ∧ bs.length ≤ Rows.uptoBulk (D i) := fun i hi => by
      obtain ⟨v, bs, h1, h2, _, h3⟩ := bytes_trod (hget i (by omega)).2
      have : V i = v := by simpa using h1
      rw [this]
      exact ⟨bs, h2, h3⟩
    obtain ⟨bss, hb1, hb2⟩ := choose_range (R := fun i bs => (∀ G, Sees (oldM W) G 1 (absC (V i)) (cellsB bs)) ∧ bs.length ≤ Rows.uptoBulk (D i)) len one
    have hd : x.1 = .slice ((List.range len).map D) ((List.range (m - len)).map fun j => D (len + j)) := congrArg Prod.fst hx
    have hk := bulk_flat ((List.range len).map D) bss (by simp [hb1]) fun i d bs hdi hbs => by
      have hi : i < len := by have := (List.getElem?_eq_some_iff.1 hbs).1; omega
      rw [List.getElem?_map, List.getElem?_range hi] at hdi
      simp only [Option.map_some, Option.some.injEq] at hdi
      rw [← hdi]; exact (hb2 i bs hbs).2
    refine ⟨_, (List.range len).map fun i => absC (V i), bss, hcs, fun G => .old a len cap _ (by simp) ?_ hlc, by simp [hb1], ?_, ?_, ?_⟩
    · intro i y hy
      have hi : i < len := by
        have := (List.getElem?_eq_some_iff.1 hy).1
        simp at this; omega
      have hg := (hget i (by omega)).1
      rw [List.getElem?_map, List.getElem?_range hi] at hy
      simp only [Option.map_some, Option.some.injEq] at hy
      unfold Mc oldM
      rw [no_spot hg, if_neg (by decide), if_neg (by decide), hg, ← hy]; rfl
    · intro i y bs hy hbs
      have hi : i < len := by have := (List.getElem?_eq_some_iff.1 hbs).1; omega
      rw [List.getElem?_map, List.getElem?_range hi] at hy
      simp only [Option.map_some, Option.some.injEq] at hy
      rw [← hy]; exact (hb2 i bs hbs).1
    · rw [hd]; simp only [Rows.uptoBulk]; omega
    · rw [hd]; simp only [Rows.uptoBulk]; omega

end Go.Proofs.YtmecikblalignaaDoor.B
