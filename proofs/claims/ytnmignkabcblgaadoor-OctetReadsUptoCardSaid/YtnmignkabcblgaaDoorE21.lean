/- Part of a claim: from a run to a row: what stood before stands behind, and reads as it read. Nothing of a program stands here. -/
import Derived.Test.YtnmignkabcblgaaDoorE20
import Derived.ProofKit
import Derived.OpenShut
import Derived.Deep.DeepHandedRow
import Derived.Lib.LaidTab
set_option linter.unusedSimpArgs false
set_option linter.unusedVariables false
namespace Go.Proofs.YtnmignkabcblgaaDoor.E
open Go Go.RowKit Go.ChangeShapes Go.WideShapes Go.ChangeAt

/-- All that is known of old memory. -/
def oldM (W : World) : Addr → Option AV := fun a => (W.cell? a).map absC

theorem oldM_ok (W : World) : MOK (oldM W) W := fun a v h => by
  unfold oldM at h
  cases hc : W.cell? a with
  | none => rw [hc] at h; cases h
  | some cv => rw [hc] at h; cases h; exact ⟨cv, rfl, VR_absC _ cv⟩

theorem Below.frame {W W' : World} (h : Below W.heap.size W W') (may : MemPlace → Prop) : W.keptBut W' may := by
  refine ⟨h.os, h.output, fun i hi => ?_⟩
  rw [h.block i hi]
  cases W.heap[i]? with
  | none => rfl
  | some o => cases o <;> simp

/-- Kinds that an argument may have here: plain data. -/
def plainT (P : Program) : Nat → TypeId → Bool
  | 0, _ => false
  | n + 1, t =>
    match P.underlying t with
    | some .bool | some (.int _) | some (.float _) | some .string => true
    | some (.slice e) => decide (0 < P.cellsOf e) && plainT P n e
    | some (.struct fs) => fs.toList.all fun f => plainT P n f.type
    | some (.array _ e) => plainT P n e
    | _ => false

theorem mapM_same {α β : Type} {f g : α → Option β} : ∀ {l : List α} {r : List β}, l.mapM f = some r → (∀ x ∈ l, ∀ y ∈ r, f x = some y → g x = some y) → l.mapM g = some r
  | [], r, h, _ => by simpa using h
  | x :: l, r, h, hg => by
    simp only [List.mapM_cons, Option.bind_eq_bind, Option.bind_eq_some_iff, Option.pure_def, Option.some.injEq] at h ⊢
    obtain ⟨b, hb, r', hr', rfl⟩ := h
    exact ⟨b, hg x (List.mem_cons_self ..) b (List.mem_cons_self ..) hb, r', mapM_same hr' (fun y hy z hz => hg y (List.mem_cons_of_mem _ hy) z (List.mem_cons_of_mem _ hz)), rfl⟩

section
variable {H : Type} {enc : TypeId × Value → H} {P : Program} {W W' : World}

theorem cells_kept (hb : Below W.heap.size W W') {a : Addr} {n : Nat} {cs : List Value} (h : W.cells? 0 a n = some cs) : W'.cells? 0 a n = some cs := by
  cases n with
  | zero => simpa [World.cells?] using h
  | succ n =>
    have hlt := World.cells?_block h (Nat.succ_pos n)
    unfold World.cells? at h ⊢
    simp only [Nat.zero_le, if_true] at h ⊢
    refine mapM_same h fun i _ y _ hy => ?_
    have hlt2 : (a.add i).block < W.heap.size := by rw [ChangeShapes.block_add]; exact hlt
    unfold World.cell? at hy ⊢
    rw [hb.block _ hlt2]; exact hy

theorem trod_kept (hb : Below W.heap.size W W') : ∀ (n m : Nat) (t : TypeId) (cs : List Value) (x : DataW H × List MemPlace), plainT P m t = true → DataW.trod enc P W 0 (fun _ => true) true n t cs = some x →
    ∀ sp : Nat → Bool, (∀ p ∈ x.2, sp p.block = true) → DataW.trod enc P W' 0 sp true n t cs = some x := by
  intro n
  induction n with
  | zero => intro m t cs x _ h; simp [DataW.trod] at h
  | succ n ih =>
    intro m t cs x hm h sp hsp
    cases m with
    | zero => simp [plainT] at hm
    | succ m =>
      simp only [plainT] at hm
      simp only [DataW.trod] at h ⊢
      split at hm
      · rename_i hu; simp only [hu] at h ⊢; split at h <;> first | exact h | simp_all
      · rename_i hu; simp only [hu] at h ⊢; split at h <;> first | exact h | simp_all
      · rename_i hu; simp only [hu] at h ⊢; split at h <;> first | exact h | simp_all
      · rename_i hu; simp only [hu] at h ⊢; split at h <;> first | exact h | simp_all
      · rename_i e hu
        simp only [Bool.and_eq_true, decide_eq_true_eq] at hm
        simp only [hu] at h ⊢
        split at h
        all_goals try (simp_all only [Option.some.injEq, reduceCtorEq]; done)
        · rename_i e' a len cap hq
          obtain rfl : e = e' := by simpa using hq
          split at h
          · rename_i hc
            rw [if_pos hc]
            simp only [if_true, Option.bind_eq_some_iff, Option.map_eq_some_iff] at h ⊢
            obtain ⟨elems, he, rest, hr, rfl⟩ := h
            have key : ∀ (i : Nat) (y : DataW H × List MemPlace), y ∈ elems ++ rest → ((W.cells? 0 (a.add (i * P.cellsOf e)) (P.cellsOf e)).bind (DataW.trod enc P W 0 (fun _ => true) true n e)) = some y →
                ((W'.cells? 0 (a.add (i * P.cellsOf e)) (P.cellsOf e)).bind (DataW.trod enc P W' 0 sp true n e)) = some y := fun i y hy h => by
              simp only [Option.bind_eq_some_iff] at h ⊢
              obtain ⟨cs, h1, h2⟩ := h
              exact ⟨cs, cells_kept hb h1, ih m e cs y hm.2 h2 sp fun p hp => hsp p (List.mem_append_right _ (List.mem_flatMap.2 ⟨y, hy, hp⟩))⟩
            refine ⟨elems, mapM_same he fun i _ y hy hh => key i y (List.mem_append_left _ hy) hh, ?_⟩
            by_cases hs : sp a.block = true
            · rw [if_pos hs]
              exact ⟨rest, mapM_same hr fun j _ y hy hh => key (len + j) y (List.mem_append_right _ hy) hh, rfl⟩
            · have h0 : (elems.length + rest.length) * P.cellsOf e = 0 := by
                rcases Nat.eq_zero_or_pos ((elems.length + rest.length) * P.cellsOf e) with h | h
                · exact h
                · exact absurd (hsp (.cell a.block a.off) (List.mem_append_left _ (by
                    unfold MemPlace.row
                    exact List.mem_map.2 ⟨0, List.mem_range.2 h, by simp⟩))) hs
              have h1 : elems.length + rest.length = 0 := by
                rcases Nat.mul_eq_zero.1 h0 with h | h
                · exact h
                · omega
              have hr0 : rest = [] := List.eq_nil_of_length_eq_zero (by omega)
              rw [if_neg hs]
              exact ⟨[], rfl, by rw [hr0]⟩
          · cases h
      · rename_i fs hu
        simp only [hu] at h ⊢
        split at h
        · rename_i hl
          rw [if_pos hl]
          simp only [Option.map_eq_some_iff] at h ⊢
          obtain ⟨xs, hx, rfl⟩ := h
          refine ⟨xs, mapM_same hx fun f hf y hy hh => ?_, rfl⟩
          exact ih m f.type _ y (List.all_eq_true.1 hm f hf) hh sp fun p hp => hsp p (List.mem_flatMap.2 ⟨y, hy, hp⟩)
        · cases h
      · rename_i k e hu
        simp only [hu] at h ⊢
        split at h
        · rename_i hl
          rw [if_pos hl]
          simp only [Option.map_eq_some_iff] at h ⊢
          obtain ⟨xs, hx, rfl⟩ := h
          refine ⟨xs, mapM_same hx fun i _ y hy hh => ?_, rfl⟩
          exact ih m e _ y hm hh sp fun p hp => hsp p (List.mem_flatMap.2 ⟨y, hy, hp⟩)
        · cases h
      · cases hm
theorem trodAll_kept (hb : Below W.heap.size W W') (m : Nat) : ∀ (ts : List TypeId) (vs : List Value) (ds : List (DataW H)) (ps : List MemPlace), (∀ t ∈ ts, plainT P m t = true) → DataW.TrodAll enc P W 0 (fun _ => true) true ts vs ds ps →
    ∀ sp : Nat → Bool, (∀ p ∈ ps, sp p.block = true) → DataW.TrodAll enc P W' 0 sp true ts vs ds ps
  | [], vs, ds, ps, _, h, sp, hsp => by
    obtain ⟨rfl, rfl, rfl⟩ := trodAll_nil h
    exact rfl
  | t :: ts, vs, ds, ps, hm, h, sp, hsp => by
    obtain ⟨v, vs1, d, ds1, p, q, rfl, rfl, rfl, ⟨n, h1⟩, h2⟩ := trodAll_cons h
    exact ⟨p, q, ⟨n, trod_kept hb n m t _ _ (hm t (List.mem_cons_self ..)) h1 sp fun x hx => hsp x (List.mem_append_left _ hx)⟩,
      trodAll_kept hb m ts vs1 ds1 q (fun t ht => hm t (List.mem_cons_of_mem _ ht)) h2 sp fun x hx => hsp x (List.mem_append_right _ hx), rfl⟩

/-- A law that answers true and turns nothing of what was there: what its row asks. -/
theorem post_plain {f : Func} {s : ChangeSpec} {apart fresh handsOn again : Bool} {args : Array Value} {ds gs : List (DataW H)} {before : List MemPlace} {tb : TypeId} {m : Nat}
    (hW : DataW.Whole enc P f.params.toList s.vars apart W args.toList ds gs before) (hb : Below W.heap.size W W') (hp : (f.params.toList.all fun t => plainT P m t) = true) (hv : s.vars = [])
    (hr : f.resultTypes = #[tb]) (htb : P.underlying tb = some .bool) (hs1 : (s.fn H (ds ++ gs)).results = [.lit (.bool true)]) (hs2 : (s.fn H (ds ++ gs)).args = ds) (hs3 : (s.fn H (ds ++ gs)).vars = []) :
    s.post enc P f apart fresh handsOn again W args (.bool true) W' := by
  obtain ⟨p, q, hA, hV, hpq, hz, hn⟩ := hW
  have hW2 : DataW.Whole enc P f.params.toList s.vars apart W args.toList ds gs before := ⟨p, q, hA, hV, hpq, hz, hn⟩
  rw [hv] at hV
  obtain ⟨rfl, rfl⟩ := trodVars_none hV
  have hpl : ∀ t ∈ f.params.toList, plainT P m t = true := fun t ht => List.all_eq_true.1 hp t ht
  have hold : ∀ p ∈ before, (fun b => decide (b < W.heap.size)) p.block = true := fun p hp => by simpa using hW2.lt p hp
  have hres : ∀ (b : Nat) (sp : Nat → Bool) (hd : Bool), DataW.TrodAll enc P W' b sp hd f.resultTypes.toList ((Value.bool true).resultList f.resultTypes.size) (s.fn H (ds ++ [])).results [] := fun b sp hd => by
    rw [hs1, hr]
    exact trodAll_cons_mk (shut_bool htb _) trodAll_mk0
  have hargs : ∀ sp : Nat → Bool, (∀ x ∈ p, sp x.block = true) → DataW.TrodAll enc P W' 0 sp true f.params.toList args.toList (s.fn H (ds ++ [])).args p := fun sp hsp => by
    rw [hs2]
    exact trodAll_kept hb m _ _ _ _ hpl hA sp hsp
  have hvars : ∀ sp : Nat → Bool, DataW.TrodVars enc P W' sp s.vars (s.fn H (ds ++ [])).vars [] := fun sp => by rw [hv, hs3]; exact rfl
  have hbp : before = p := by rw [hpq, List.append_nil]
  refine ⟨ds, [], before, [], p, [], hW2, hres _ _ _, hargs _ (fun x hx => hold x (by rw [hbp]; exact hx)), hvars _, Below.frame hb _, fun _ => ⟨?_, _, _, ([] ++ p) ++ [], ⟨[] ++ p, [], trodAll_append (hargs _ (fun _ _ => rfl)) (hres _ _ _), hvars _, rfl, ?_, ?_⟩, ?_⟩⟩
  · exact ok_one hr rfl (okWide_bool_mk htb _)
  · intro b off hx
    have hx' : MemPlace.cell b off ∈ before := by rw [hbp]; simpa using hx
    have hlt : b < W.heap.size := hW2.lt _ hx'
    have := hz b off hx'
    unfold World.frozen? at this ⊢
    rw [hb.block _ hlt]; exact this
  · intro ha
    have := hn ha
    rw [hbp] at this
    simpa using this
  · intro x hx _
    rw [hbp]
    simpa using hx

end

end Go.Proofs.YtnmignkabcblgaaDoor.E
