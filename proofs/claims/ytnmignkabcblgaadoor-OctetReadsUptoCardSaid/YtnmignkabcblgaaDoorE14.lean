/- Part of a claim: all operations together. Nothing of a program stands here. -/
import Derived.Test.YtnmignkabcblgaaDoorE13
import Derived.Laws.Cover3
set_option linter.unusedSimpArgs false
set_option linter.unusedVariables false
namespace Go.Proofs.YtnmignkabcblgaaDoor.E
open Go Go.RowKit

/-- What an operation's run comes to, as the machine goes on from it. -/
def Steps1 (P : Program) (o : Oper) (a : Act) (ρ : Asg) (W0 W : World) (v : AV) (H' : Heap) : Prop :=
  ∃ cv W' ρ', ((execOp a.eval o).run P W = .ok (.value cv) W' ∨ ((execOp a.eval o).run P W = .ok .skip W' ∧ cv = undef)) ∧ Le ρ ρ' ∧ VR ρ' v cv ∧ Rel ρ' H' W0 W'

theorem Yields.steps {P : Program} {o : Oper} {a : Act} {ρ : Asg} {W0 W : World} {v : AV} {H' : Heap} {s : Sem Value} (h : Yields P s ρ W0 W v H') (he : execOp a.eval o = (do pure (.value (← s)))) : Steps1 P o a ρ W0 W v H' := by
  obtain ⟨cv, W', ρ', h1, h2, h3, h4⟩ := h
  refine ⟨cv, W', ρ', .inl ?_, h2, h3, h4⟩
  rw [he, Sem.run_bind, h1]
  rfl

theorem Yields.congr {P : Program} {ρ : Asg} {W0 W : World} {v : AV} {H' : Heap} {s s' : Sem Value} (h : Yields P s ρ W0 W v H') (he : s'.run P W = s.run P W) : Yields P s' ρ W0 W v H' := by
  obtain ⟨cv, W', ρ', h1, h2⟩ := h
  exact ⟨cv, W', ρ', he.trans h1, h2⟩

theorem map_pair {x : Option AV} {H : Heap} {r : AV × Heap} (h : x.map (fun v => (v, H)) = some r) : ∃ z, x = some z ∧ r = (z, H) := by
  cases x with
  | none => cases h
  | some z => cases h; exact ⟨z, rfl, rfl⟩

theorem opt_rel {ρ : Asg} {env : List AV} {a : Act} (q : RelEnv ρ env a) (x : Option Operand) : (∀ y, x.map (opv env) = some y → ∃ v, x.map a.eval = some v ∧ VR ρ y v) ∧ (x.map (opv env) = none → x.map a.eval = none) := by
  cases x with
  | none => exact ⟨by simp, by simp⟩
  | some y => exact ⟨fun z hz => by simp at hz; subst hz; exact ⟨_, rfl, q.eval y⟩, by simp⟩

theorem args_rel {ρ : Asg} {env : List AV} {a : Act} (q : RelEnv ρ env a) : ∀ (l : List Operand), VRs ρ (l.map (opv env)) (l.map a.eval)
  | [] => by simp only [List.map_nil, VRs]
  | x :: l => by simp only [List.map_cons, VRs]; exact ⟨_, _, rfl, q.eval x, args_rel q l⟩

theorem evOp_ok {P : Program} {T : Tab} (hT : TOK P T) {M : Addr → Option AV} {o : Oper} {env : List AV} {a : Act} {ρ : Asg} {H H' : Heap} {W0 W : World} {v : AV} (hR : Rel ρ H W0 W) (hM : MOK M W0) (q : RelEnv ρ env a)
    (h : evOp T M o.op (opv env) H = some (v, H')) : Steps1 P o a ρ W0 W v H' := by
  unfold evOp at h
  split at h
  · rename_i x ho
    cases h
    exact ⟨a.eval x, W, ρ, .inl (by unfold execOp; simp only [ho]; rfl), Le.refl ρ, q.eval x, hR⟩
  · rename_i x ho
    cases h
    exact ⟨a.eval x, W, ρ, .inl (by unfold execOp; simp only [ho]; rfl), Le.refl ρ, q.eval x, hR⟩
  · rename_i c x y ho
    have hc := q.eval c
    split at h
    · rename_i hcv
      cases h
      rw [hcv] at hc
      simp only [VR] at hc
      exact ⟨a.eval x, W, ρ, .inl (by unfold execOp; simp only [ho, hc]; rfl), Le.refl ρ, q.eval x, hR⟩
    · rename_i hcv
      cases h
      rw [hcv] at hc
      simp only [VR] at hc
      exact ⟨a.eval y, W, ρ, .inl (by unfold execOp; simp only [ho, hc]; rfl), Le.refl ρ, q.eval y, hR⟩
    · cases h
  · rename_i t ho
    split at h
    · rename_i i ht
      refine Yields.steps (s := Instr.alloc t true (.tuple #[])) ((newA_ok (P := P) hR h (VR_absC ρ i.zero)).congr ?_) (by unfold execOp; simp only [ho])
      unfold Instr.alloc
      rw [Sem.run_bind, hT.run_zero ht]
      rfl
    · cases h
  · rename_i t x ho
    exact Yields.steps (s := Instr.box t (a.eval x)) (newA_ok (P := P) hR h (q.eval x)) (by unfold execOp; simp only [ho])
  · rename_i t parts ho
    obtain ⟨z, hz, h2⟩ := map_pair h
    cases h2
    have hp := VPs.mk q parts.toList
    refine Yields.steps (s := Instr.build t (parts.map fun (i, x) => (i, a.eval x))) ?_ (by unfold execOp; simp only [ho])
    have := build_ok hT hR hz hp
    rwa [show (parts.toList.map fun p => (p.1, a.eval p.2)).toArray = parts.map fun (i, x) => (i, a.eval x) by apply Array.ext'; simp] at this
  · rename_i t len parts ho
    have hp := VPs.mk q parts.toList
    refine Yields.steps (s := Instr.buildSlice t len (parts.map fun (i, x) => (i, a.eval x))) ?_ (by unfold execOp; simp only [ho])
    have := buildSlice_ok hT hR h hp
    rwa [show (parts.toList.map fun p => (p.1, a.eval p.2)).toArray = parts.map fun (i, x) => (i, a.eval x) by apply Array.ext'; simp] at this
  · rename_i t p ho
    obtain ⟨z, hz, h2⟩ := map_pair h
    cases h2
    exact Yields.steps (s := Instr.loadAt t (a.eval p)) (loadAt_ok hT hR hM hz (q.eval p)) (by unfold execOp; simp only [ho])
  · rename_i t p x ho
    cases hs : storeA T H t (opv env p) (opv env x) with
    | none => rw [hs] at h; cases h
    | some H2 =>
      rw [hs] at h; cases h
      obtain ⟨W', h1, h2⟩ := storeAt_ok (P := P) hT hR hs (q.eval p) (q.eval x)
      refine ⟨undef, W', ρ, .inr ⟨?_, rfl⟩, Le.refl ρ, ?_, h2⟩
      · unfold execOp
        simp only [ho, Sem.run_bind, h1, Result.andThen_ok]
        rfl
      · simp only [VR]; exact ⟨#[], rfl, by simp only [VRs]⟩
  · rename_i x ho
    have hx := q.eval x
    split at h
    · rename_i b e off hxv
      cases h
      rw [hxv] at hx
      have hx0 := hx
      simp only [VR] at hx0
      obtain ⟨l, _, _, hp⟩ := hx0
      exact ⟨a.eval x, W, ρ, .inl (by unfold execOp; simp only [ho, hp]; rfl), Le.refl ρ, hx, hR⟩
    · rename_i b hxv
      cases h
      rw [hxv] at hx
      have hp := hx
      simp only [VR] at hp
      exact ⟨a.eval x, W, ρ, .inl (by unfold execOp; simp only [ho, hp]; rfl), Le.refl ρ, hx, hR⟩
    · cases h
  · rename_i op t x y yt ho
    obtain ⟨z, hz, h2⟩ := map_pair h
    cases h2
    exact Yields.steps (bin_ok hT hR hz (q.eval x) (q.eval y)) (by unfold execOp; simp only [ho])
  · rename_i op t x ho
    obtain ⟨z, hz, h2⟩ := map_pair h
    cases h2
    exact Yields.steps (un_ok hR hz (q.eval x)) (by unfold execOp; simp only [ho])
  · rename_i s d x ho
    exact Yields.steps (conv_ok hT hR hM h (q.eval x)) (by unfold execOp; simp only [ho])
  · rename_i t x ho
    split at h
    · rename_i i ht
      split at h
      · cases h
      · rename_i hni
        cases h
        exact Yields.steps (makeInterface_ok hT hR ht (fun ms hms => hni ms hms) (q.eval x)) (by unfold execOp; simp only [ho])
    · cases h
  · rename_i t l c ho
    exact Yields.steps (makeSlice_ok hT hR h (q.eval l) (q.eval c)) (by unfold execOp; simp only [ho])
  · rename_i t x lo hi mx ho
    obtain ⟨z, hz, h2⟩ := map_pair h
    cases h2
    exact Yields.steps (slice_ok hT hR hz (q.eval x) (opt_rel q lo).1 (opt_rel q lo).2 (opt_rel q hi).1 (opt_rel q hi).2 (opt_rel q mx).1 (opt_rel q mx).2) (by unfold execOp; simp only [ho])
  · rename_i s x f ho
    obtain ⟨z, hz, h2⟩ := map_pair h
    cases h2
    exact Yields.steps (fieldAddr_ok hT hR hz (q.eval x)) (by unfold execOp; simp only [ho])
  · rename_i s x f ho
    obtain ⟨z, hz, h2⟩ := map_pair h
    cases h2
    exact Yields.steps (field_ok hT hR hz (q.eval x)) (by unfold execOp; simp only [ho])
  · rename_i t x i ho
    obtain ⟨z, hz, h2⟩ := map_pair h
    cases h2
    exact Yields.steps (indexAddr_ok hT hR hz (q.eval x) (q.eval i)) (by unfold execOp; simp only [ho])
  · rename_i t x i ho
    obtain ⟨z, hz, h2⟩ := map_pair h
    cases h2
    exact Yields.steps (index_ok hT hR hz (q.eval x) (q.eval i)) (by unfold execOp; simp only [ho])
  · rename_i x i ho
    obtain ⟨z, hz, h2⟩ := map_pair h
    cases h2
    exact Yields.steps (extract_ok hR hz (q.eval x)) (by unfold execOp; simp only [ho])
  · rename_i t x ho
    exact Yields.steps (range_ok hT hR h (q.eval x)) (by unfold execOp; simp only [ho])
  · rename_i it isString ho
    split at h
    · rename_i hs
      subst hs
      exact Yields.steps (next_ok hR h (q.eval it) o.type) (by unfold execOp; simp only [ho])
    · cases h
  · rename_i b args argTypes ho
    have hargs := args_rel q args.toList
    have hexec : ∀ s : Sem Value, builtin b argTypes o.type (args.map fun | .const _ => true | _ => false) (args.map a.eval) = (do pure (.value (← s))) → execOp a.eval o = (do pure (.value (← s))) := by
      intro s hs
      unfold execOp
      simp only [ho, resolve, invoke, pure_bind]
      exact hs
    have hmap : args.map a.eval = (args.toList.map a.eval).toArray := by apply Array.ext'; simp
    unfold biA at h
    split at h
    · rename_i s x hl
      rw [hl] at hargs
      simp only [VRs] at hargs
      obtain ⟨u, us, hu, r1, w, ws, hw, r2, hnil⟩ := hargs
      subst hw; subst hnil
      refine (append_ok (ty := o.type) hT hR hM h r1 r2).steps (hexec _ ?_)
      rw [hmap, hu]
      rfl
    · rename_i s x hl
      rw [hl] at hargs
      simp only [VRs] at hargs
      obtain ⟨u, us, hu, r1, w, ws, hw, r2, hnil⟩ := hargs
      subst hw; subst hnil
      refine (copy_ok (ty := o.type) hT hR hM h r1 r2).steps (hexec _ ?_)
      rw [hmap, hu]
      rfl
    · rename_i x hl
      rw [hl] at hargs
      simp only [VRs] at hargs
      obtain ⟨u, us, hu, r1, hnil⟩ := hargs
      subst hnil
      obtain ⟨z, hz, h2⟩ := map_pair h
      cases h2
      refine (len_ok (ty := o.type) hT hR hz r1).steps (hexec _ ?_)
      rw [hmap, hu]
      rfl
    · rename_i x hl
      rw [hl] at hargs
      simp only [VRs] at hargs
      obtain ⟨u, us, hu, r1, hnil⟩ := hargs
      subst hnil
      obtain ⟨z, hz, h2⟩ := map_pair h
      cases h2
      refine (cap_ok (ty := o.type) hT hR hz r1).steps (hexec _ ?_)
      rw [hmap, hu]
      rfl
    · rename_i x r hl
      rw [hl] at hargs
      simp only [VRs] at hargs
      obtain ⟨u, us, hu, r1, r2⟩ := hargs
      obtain ⟨z, hz, h2⟩ := map_pair h
      cases h2
      obtain ⟨cv, c1, c2⟩ := fold_ok (P := P) (W := W) (f := min2A) (g := Builtin.min2) (fun h1 h2 h3 => min2_ok h1 h2 h3) r x _ us u hz r1 r2
      refine (Yields.same (s := Builtin.min_ argTypes o.type (args.map a.eval)) ?_ c2 hR).steps (hexec _ rfl)
      rw [hmap, hu]
      exact c1
    · rename_i x r hl
      rw [hl] at hargs
      simp only [VRs] at hargs
      obtain ⟨u, us, hu, r1, r2⟩ := hargs
      obtain ⟨z, hz, h2⟩ := map_pair h
      cases h2
      obtain ⟨cv, c1, c2⟩ := fold_ok (P := P) (W := W) (f := max2A) (g := Builtin.max2) (fun h1 h2 h3 => max2_ok h1 h2 h3) r x _ us u hz r1 r2
      refine (Yields.same (s := Builtin.max_ argTypes o.type (args.map a.eval)) ?_ c2 hR).steps (hexec _ rfl)
      rw [hmap, hu]
      exact c1
    · rename_i k x y hl
      rw [hl] at hargs
      simp only [VRs, VR] at hargs
      obtain ⟨u, us, hu, ⟨x', y', r1, r2, r3⟩, hnil⟩ := hargs
      subst hnil; subst r1
      cases h
      refine (Yields.same (s := Builtin.real_ argTypes o.type (args.map a.eval)) (cv := .float k x') ?_ (by simp only [VR]; exact ⟨_, rfl, r2⟩) hR).steps (hexec _ rfl)
      rw [hmap, hu]
      rfl
    · rename_i k x y hl
      rw [hl] at hargs
      simp only [VRs, VR] at hargs
      obtain ⟨u, us, hu, ⟨x', y', r1, r2, r3⟩, hnil⟩ := hargs
      subst hnil; subst r1
      cases h
      refine (Yields.same (s := Builtin.imag_ argTypes o.type (args.map a.eval)) (cv := .float k y') ?_ (by simp only [VR]; exact ⟨_, rfl, r3⟩) hR).steps (hexec _ rfl)
      rw [hmap, hu]
      rfl
    · rename_i k x k' y hl
      rw [hl] at hargs
      simp only [VRs, VR] at hargs
      obtain ⟨u, us, hu, ⟨x', r1, r2⟩, w, ws, hw, ⟨y', r3, r4⟩, hnil⟩ := hargs
      subst hw; subst hnil; subst r1; subst r3
      split at h
      · rename_i hk
        subst hk
        cases h
        refine (Yields.same (s := Builtin.complex_ argTypes o.type (args.map a.eval)) (cv := .complex k x' y') ?_ (by simp only [VR]; exact ⟨_, _, rfl, r2, r4⟩) hR).steps (hexec _ rfl)
        rw [hmap, hu]
        exact run_complex W argTypes o.type k x' y'
      · cases h
    · cases h
  · cases h

end Go.Proofs.YtnmignkabcblgaaDoor.E
