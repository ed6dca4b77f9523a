/- Part of a claim: the library's number texts, by the kit's contracts. -/
import Derived.Test.YtaaecodkdgkjoaaDoorPT1
set_option linter.unusedSimpArgs false
set_option linter.unusedVariables false
namespace Go.Proofs.YtaaecodkdgkjoaaDoor.B
open Go Go.RowKit Go.Proofs.YtaaecodkdgkjoaaDoor.E

/-- A call, by a contract of the kit that tells its answer in part. -/
theorem SemF.libE {P : Program} {M : Addr → Option AV} {k : FuncId} {args : List AV} {H : Heap} {R : AV → Prop} (henter : ∀ (cargs : Array Value) (W : World), (callFunc k cargs).run P W = .ok (.enter k cargs) W)
    (h : ∀ (W0 W : World) (cargs : Array Value) (ρ : Asg), MOK M W0 → Below W0.heap.size W0 W → VRs ρ args cargs.toList → Calls P k cargs W fun e W' => ∃ cv r, e = .returned cv ∧ R r ∧ VR ρ r cv ∧ Below W.heap.size W W') :
    SemF P M k args H fun v h => R v ∧ h = H := by
  intro W0 W ρ cargs hM hR hv
  refine .inl ⟨henter cargs W, (h W0 W cargs ρ hM hR.below hv).mono fun e W' ⟨cv, r, he, hr, hv, hb⟩ => ?_⟩
  subst he
  exact ⟨r, H, ρ, ⟨hr, rfl⟩, Le.refl ρ, hv, hR.later hb⟩

/-- What M must hold: the table of powers with its size, the library's two errors. -/
def Pow (M : Addr → Option AV) : Prop := (∃ v, M ⟨5, 20, some 1⟩ = some v) ∧ ∀ (i : Nat) (z : Int), Lib.pow10Tab[i]? = some z → M ⟨5, i, none⟩ = some (.int .u64 z)
def Err (M : Addr → Option AV) (g : Nat) : Prop := ∃ t y, M ⟨g, 0, none⟩ = some (.other (.iface t y))

theorem enters {k : FuncId} {fn : Func} {c : Code} (hf : Tryd.prog.funcs[k]? = some fn) (hn : (fn.name == "runtime.NumGoroutine") = false) (hb : fn.body = some c) (cargs : Array Value) (W : World) : (callFunc k cargs).run Tryd.prog W = .ok (.enter k cargs) W := by
  have h1 : fn.name ≠ "runtime.NumGoroutine" := by simpa using hn
  simp [callFunc, hf, h1, hb]

theorem pFmtI {M : Addr → Option AV} (hp : Pow M) (H : Heap) {n : Int} (h0 : -9223372036854775808 ≤ n) (h1 : n ≤ 9223372036854775807) : SemF Tryd.prog M 53 [.int .i64 n, .int .i64 10] H fun v h => v = .str (Lib.itoa n) ∧ h = H := by
  obtain ⟨⟨v, hv⟩, hc⟩ := hp
  refine SemF.lib (enters Tryd.func53 (by kernel_rfl) rfl) fun W0 W cargs ρ hM hb ha => ?_
  obtain ⟨x, y, rfl, hx, hy⟩ := args2 ha
  simp only [VR] at hx hy
  subst hx hy
  have ht : Lib.TabIs Tryd.prog W "internal/strconv.uint64pow10" .u64 Lib.pow10Tab := tab_is hM hb (g := 5) (v := v) (by kernel_rfl) (by rw [Lib.pow10Tab_length]; exact hv) hc (by intro e; have := congrArg List.length e; rw [Lib.pow10Tab_length] at this; simp at this)
  refine (Tryd.strconv_FormatInt_10 n h0 h1 W ht).mono fun e W' ⟨he, k, os, hw⟩ => ⟨_, he, ?_, ?_⟩
  · simp only [VR]
  · subst hw
    exact ⟨rfl, rfl, rfl, by show W.heap.size ≤ (W.heap ++ os).size; rw [Array.size_append]; omega, fun _ hj => Sort.heap_grow_old (W.drewN k) os hj⟩

theorem err_cell {M : Addr → Option AV} {W0 W : World} (hM : MOK M W0) (hb : Below W0.heap.size W0 W) {g : Nat} (h : Err M g) : ∃ ev, W.cell? ⟨g, 0, none⟩ = some ev ∧ (ev = .nilIface ∨ ∃ te pe, ev = .iface te pe) := by
  obtain ⟨t, y, h1⟩ := h
  have hcell : Mc M ⟨g, 0, none⟩ = some (.other (.iface t y)) := by unfold Mc; rw [if_neg (by simp)]; exact h1
  obtain ⟨cv, q1, q2⟩ := hM.cell hcell
  have hlt : g < W0.heap.size := Lib.lt_of_cell q1
  refine ⟨cv, (cell_flat (a := ⟨g, 0, none⟩) (hb.block g hlt)).trans q1, ?_⟩
  simp only [VR] at q2
  exact .inr ⟨t, y, q2⟩

/-- What ParseInt answers: a number, and whatever is beside it. -/
def PiA (l : List UInt8) (v : AV) : Prop := ∃ (n : Int) (x : AV), v = .tup [.int .i64 n, x] ∧ I64 n ∧ ∀ m, Lib.parseIntB 64 l = .ok m → n = m

theorem pParseI {M : Addr → Option AV} (h2 : Err M 2) (h3 : Err M 3) (H : Heap) {s : List UInt8} (hs : s.length ≤ 281474976710656) : SemF Tryd.prog M 40 [.str s, .int .i64 10, .int .i64 64] H fun v h => PiA s v ∧ h = H := by
  refine SemF.libE (enters Tryd.func40 (by kernel_rfl) rfl) fun W0 W cargs ρ hM hb ha => ?_
  obtain ⟨x, y, z, rfl, hx, hy, hz⟩ := args3 ha
  simp only [VR] at hx hy hz
  subst hx hy hz
  have hsz : (⟨⟨s⟩⟩ : ByteArray).size = s.length := rfl
  rcases hp : Lib.parseIntB 64 s with m | _ | _
  · have hb2 := Lib.parseIntB_bounds hp
    rw [show (2 : Nat) ^ (64 - 1) = 9223372036854775808 by decide] at hb2
    refine (Tryd.strconv_ParseInt_10_at64_ok ⟨⟨s⟩⟩ (by rw [hsz]; omega) m hp W).mono fun e W' ⟨he, hw⟩ => ⟨_, .tup [.int .i64 m, .nilIface], he, ⟨m, _, rfl, ⟨by omega, by omega⟩, fun m' h => by rw [hp] at h; injection h⟩, ?_, ?_⟩
    · simp only [VR, VRs]
      exact ⟨_, rfl, _, _, rfl, rfl, _, _, rfl, rfl, rfl⟩
    · rcases hw with rfl | ⟨t, rfl⟩
      · exact Below.refl _ _
      · exact Lib.bytesWorld_below _ _ _
  · obtain ⟨ev, e1, e2⟩ := err_cell hM hb h2
    refine (Any.strconv_ParseInt_10_at64_syntax Tryd.laysC174 ⟨⟨s⟩⟩ (by rw [hsz]; omega) hp ev W e1 e2).mono fun e W' ⟨N, he, _, _, hw⟩ => ⟨_, .tup [.int .i64 0, .iface 105 (.optr ⟨N, 0, none⟩)], he, ⟨0, _, rfl, ⟨by omega, by omega⟩, fun m' h => by rw [hp] at h; cases h⟩, ?_, hw⟩
    simp only [VR, VRs]
    exact ⟨_, rfl, _, _, rfl, rfl, _, _, rfl, ⟨_, rfl, rfl⟩, rfl⟩
  · obtain ⟨ev, e1, e2⟩ := err_cell hM hb h3
    have hsat : I64 (Lib.intSat 64 s) := by
      rw [Lib.intSat_64]; unfold Lib.atoiSat I64; split <;> omega
    refine (Tryd.strconv_ParseInt_10_at64_range ⟨⟨s⟩⟩ (by rw [hsz]; omega) hp ev W e1 e2).mono fun e W' ⟨N, he, _, _, hw⟩ => ⟨_, .tup [.int .i64 (Lib.intSat 64 s), .iface 105 (.optr ⟨N, 0, none⟩)], he, ⟨_, _, rfl, hsat, fun m' h => by rw [hp] at h; cases h⟩, ?_, hw⟩
    simp only [VR, VRs]
    exact ⟨_, rfl, _, _, rfl, rfl, _, _, rfl, ⟨_, rfl, rfl⟩, rfl⟩

def isU8 (r : Option AV) (z : Int) : Bool := match r with | some (.int .u8 m) => m == z | _ => false
theorem isU8_eq {r : Option AV} {z : Int} (h : isU8 r z = true) : r = some (.int .u8 z) := by
  unfold isU8 at h
  split at h
  · rw [eq_of_beq h]
  · cases h
theorem tab_first : ((List.range 256).all fun c => isU8 (tabM ⟨6, c, none⟩) (Lib.firstT c)) = true := by kernel_rfl
theorem tab_acc : ((List.range 16).all fun i => isU8 (tabM ⟨7, 2 * i, none⟩) (Lib.accLo i) && isU8 (tabM ⟨7, 2 * i + 1, none⟩) (Lib.accHi i)) = true := by kernel_rfl

/-- What DecodeLastRuneInString answers: a rune, and how many bytes it took. -/
theorem pLastAny {M : Addr → Option AV} (hM : ∀ a v, tabM a = some v → M a = some v) (H : Heap) {s : List UInt8} (hs : s.length ≤ 1000000000) : SemF Tryd.prog M 61 [.str s] H fun v h => v = .tup [.int .i32 (Lib.decodeLastL s).1, .int .i64 (Lib.decodeLastL s).2] ∧ h = H := by
  refine SemF.lib (enters Tryd.func61 (by kernel_rfl) rfl) fun W0 W cargs ρ hW hb ha => ?_
  obtain ⟨x, rfl, hx⟩ := args1 ha
  simp only [VR] at hx
  subst hx
  have hcell : ∀ g i v, tabM ⟨g, i, none⟩ = some (.int .u8 v) → W.cell? ⟨g, i, none⟩ = some (.int .u8 v) := fun g i v h => by
    have hc : Mc M ⟨g, i, none⟩ = some (.int .u8 v) := by unfold Mc; rw [if_neg (by simp)]; exact hM _ _ h
    obtain ⟨cv, q1, q2⟩ := hW.cell hc
    simp only [VR] at q2
    subst q2
    exact (cell_flat (a := ⟨g, i, none⟩) (hb.block g (Lib.lt_of_cell q1))).trans q1
  have ht : Lib.Utf8Tabs 6 7 W := by
    constructor
    · intro c hc
      exact hcell _ _ _ (isU8_eq (List.all_eq_true.1 tab_first c (List.mem_range.2 hc)))
    · intro i hi
      have h := List.all_eq_true.1 tab_acc i (List.mem_range.2 hi)
      rw [Bool.and_eq_true] at h
      exact ⟨hcell _ _ _ (isU8_eq h.1), hcell _ _ _ (isU8_eq h.2)⟩
  refine (Tryd.utf8_DecodeLastRuneInString ⟨⟨s⟩⟩ W (by show s.length ≤ _; omega) ht).mono fun e W' ⟨he, hw⟩ => ⟨_, he, ?_, hw⟩
  simp only [VR, VRs]
  exact ⟨_, rfl, _, _, rfl, rfl, _, _, rfl, rfl, rfl⟩

end Go.Proofs.YtaaecodkdgkjoaaDoor.B
