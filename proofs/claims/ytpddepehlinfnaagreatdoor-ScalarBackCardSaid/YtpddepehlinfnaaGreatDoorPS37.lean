/- Part of a claim: a number written: Itoa, by the kit's contract; the document's decimal. -/
import Derived.Test.YtpddepehlinfnaaGreatDoorPS36
import Derived.Test.YtpddepehlinfnaaGreatDoorPES
import Derived.Test.YtpddepehlinfnaaGreatDoorPIT
set_option linter.unusedSimpArgs false
set_option linter.unusedVariables false
namespace Go.Proofs.YtpddepehlinfnaaGreatDoor.B
open Go Go.RowKit Go.Proofs.YtpddepehlinfnaaGreatDoor.E Go.Proofs.YtpddepehlinfnaaGreatDoor.FL

/-- The library's table of powers of ten, with its size, as M holds it. -/
def Pow (M : Addr → Option AV) : Prop := (∃ v, M ⟨6, 20, some 1⟩ = some v) ∧ ∀ (i : Nat) (z : Int), Lib.pow10Tab[i]? = some z → M ⟨6, i, none⟩ = some (.int .u64 z)

theorem pItoa {M : Addr → Option AV} (hp : Pow M) (H : Heap) {n : Int} (h0 : -9223372036854775808 ≤ n) (h1 : n ≤ 9223372036854775807) : SemF Tryz.prog M 77 [.int .i64 n] H fun v h => v = .str (Lib.itoa n) ∧ h = H := by
  obtain ⟨⟨v, hv⟩, hc⟩ := hp
  refine SemF.lib (fun cargs W => ?_) fun W0 W cargs ρ hM hb ha => ?_
  · have h1 : Tryz.f77.name ≠ "runtime.NumGoroutine" := by
      have : (Tryz.f77.name == "runtime.NumGoroutine") = false := by kernel_rfl
      simpa using this
    have h2 : ∃ c, Tryz.f77.body = some c := ⟨_, rfl⟩
    obtain ⟨c, h2⟩ := h2
    simp [callFunc, Tryz.func77, h1, h2]
  obtain ⟨x, rfl, hx⟩ := args1 ha
  simp only [VR] at hx
  subst hx
  have ht : Lib.TabIs Tryz.prog W "internal/strconv.uint64pow10" .u64 Lib.pow10Tab := tab_is hM hb (g := 6) (v := v) (by kernel_rfl) (by rw [Lib.pow10Tab_length]; exact hv) hc (by intro e; have := congrArg List.length e; rw [Lib.pow10Tab_length] at this; simp at this)
  refine (Tryz.strconv_Itoa n h0 h1 W ht).mono fun e W' ⟨he, k, os, hw⟩ => ⟨_, he, ?_, ?_⟩
  · simp only [VR]
  · subst hw
    exact ⟨rfl, rfl, rfl, by show W.heap.size ≤ (W.heap ++ os).size; rw [Array.size_append]; omega, fun _ hj => Sort.heap_grow_old (W.drewN k) os hj⟩

end Go.Proofs.YtpddepehlinfnaaGreatDoor.B
