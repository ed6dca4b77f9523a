/- Part of a claim: the kit's contracts of library functions, for walks. Nothing of a program stands here. -/
import Derived.Test.YtaaecodkdgkjoaaDoorPED
import Derived.Lib.LaidTab
set_option linter.unusedSimpArgs false
set_option linter.unusedVariables false
namespace Go.Proofs.YtaaecodkdgkjoaaDoor.E
open Go Go.RowKit

theorem cell_flat {W W' : World} {a : Addr} (h : W'.heap[a.block]? = W.heap[a.block]?) : W'.cell? a = W.cell? a := by
  unfold World.cell?
  rw [h]

/-- A table that M holds, with its size, is what the kit's contracts ask. -/
theorem tab_is {P : Program} {M : Addr → Option AV} {W0 W : World} (hM : MOK M W0) (hb : Below W0.heap.size W0 W) {name : String} {g : Nat} {k : IntKind} {zs : List Int} {v : AV} (hg : P.globalNamed name = some g) (hs : M ⟨g, zs.length, some 1⟩ = some v)
    (hc : ∀ (i : Nat) (z : Int), zs[i]? = some z → M ⟨g, i, none⟩ = some (.int k z)) (hne : zs ≠ []) : Lib.TabIs P W name k zs := by
  have hsz := hM.size hs
  have h0 : ∃ cs t fr, W0.heap[g]? = some (.cells cs t fr) ∧ cs.size = zs.length := by
    unfold sizeB at hsz
    split at hsz
    · rename_i cs t fr hh; exact ⟨cs, t, fr, hh, hsz⟩
    · cases zs with
      | nil => exact absurd rfl hne
      | cons z zs => simp at hsz
  obtain ⟨cs, t, fr, hh, hl⟩ := h0
  have hlt : g < W0.heap.size := (Array.getElem?_eq_some_iff.1 hh).1
  have hW : W.heap[g]? = some (.cells cs t fr) := (hb.block g hlt).trans hh
  unfold Lib.TabIs World.var?
  rw [hg]
  simp only [Option.bind_some, hW]
  congr 1
  apply Array.ext
  · simp [hl]
  · intro i h1 h2
    have hi : i < zs.length := by omega
    have hm := hc i zs[i] (List.getElem?_eq_getElem hi)
    have hcell : Mc M ⟨g, i, none⟩ = some (.int k zs[i]) := by unfold Mc; rw [if_neg (by simp)]; exact hm
    obtain ⟨cv, q1, q2⟩ := hM.cell hcell
    simp only [VR] at q2
    subst q2
    unfold World.cell? at q1
    simp only [hh] at q1
    have q3 : cs[i]? = some (.int k zs[i]) := by
      simpa using q1
    have q4 := Array.getElem?_eq_some_iff.1 q3
    obtain ⟨q5, q6⟩ := q4
    rw [q6]
    simp

/-- A call, by a contract of the kit: the heap that the walk speaks of is as it was. -/
theorem SemF.lib {P : Program} {M : Addr → Option AV} {k : FuncId} {args : List AV} {H : Heap} {r : AV} (henter : ∀ (cargs : Array Value) (W : World), (callFunc k cargs).run P W = .ok (.enter k cargs) W)
    (h : ∀ (W0 W : World) (cargs : Array Value) (ρ : Asg), MOK M W0 → Below W0.heap.size W0 W → VRs ρ args cargs.toList → Calls P k cargs W fun e W' => ∃ cv, e = .returned cv ∧ VR ρ r cv ∧ Below W.heap.size W W') :
    SemF P M k args H fun v h => v = r ∧ h = H := by
  intro W0 W ρ cargs hM hR hv
  refine .inl ⟨henter cargs W, (h W0 W cargs ρ hM hR.below hv).mono fun e W' ⟨cv, he, hr, hb⟩ => ?_⟩
  subst he
  exact ⟨r, H, ρ, ⟨rfl, rfl⟩, Le.refl ρ, hr, hR.later hb⟩

theorem args1 {ρ : Asg} {x : AV} {c : Array Value} (h : VRs ρ [x] c.toList) : ∃ v, c = #[v] ∧ VR ρ x v := by
  simp only [VRs] at h
  obtain ⟨y, ys, e, h1, rfl⟩ := h
  exact ⟨y, Array.ext' (by rw [e]), h1⟩
theorem args2 {ρ : Asg} {x y : AV} {c : Array Value} (h : VRs ρ [x, y] c.toList) : ∃ v w, c = #[v, w] ∧ VR ρ x v ∧ VR ρ y w := by
  simp only [VRs] at h
  obtain ⟨a, as, e, h1, b, bs, rfl, h2, rfl⟩ := h
  exact ⟨a, b, Array.ext' (by rw [e]), h1, h2⟩
theorem args3 {ρ : Asg} {x y z : AV} {c : Array Value} (h : VRs ρ [x, y, z] c.toList) : ∃ v w u, c = #[v, w, u] ∧ VR ρ x v ∧ VR ρ y w ∧ VR ρ z u := by
  simp only [VRs] at h
  obtain ⟨a, as, e, h1, b, bs, rfl, h2, d, ds, rfl, h3, rfl⟩ := h
  exact ⟨a, b, d, Array.ext' (by rw [e]), h1, h2, h3⟩

end Go.Proofs.YtaaecodkdgkjoaaDoor.E
