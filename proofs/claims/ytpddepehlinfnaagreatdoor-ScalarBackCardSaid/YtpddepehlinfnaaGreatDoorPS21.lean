/- Part of a claim: a row of words in a block of memory; the program adds to it, carries, negates. -/
import Derived.Test.YtpddepehlinfnaaGreatDoorPS15
import Derived.Test.YtpddepehlinfnaaGreatDoorPS20
set_option linter.unusedSimpArgs false
set_option linter.unusedVariables false
set_option maxRecDepth 100000
set_option maxHeartbeats 10000000
namespace Go.Proofs.YtpddepehlinfnaaGreatDoor.B
open Go Go.RowKit Go.Proofs.YtpddepehlinfnaaGreatDoor.E Go.Proofs.YtpddepehlinfnaaGreatDoor.FL

/-- Words as cells. -/
def cw (w : List Int) : List AV := w.map fun x => .int .i64 x
theorem cw_length (w : List Int) : (cw w).length = w.length := List.length_map ..
theorem cw_set (w : List Int) (i : Nat) (x : Int) : (cw w).set i (.int .i64 x) = cw (w.set i x) := by
  unfold cw; rw [List.map_set]

/-- The block b holds the words. -/
def Wd (H : Heap) (b ep : Nat) (el : TypeId) (w : List Int) : Prop := H[b]? = some (.c (cw w) el ep ep)
/-- The heap with other words there. -/
def putW (H : Heap) (b ep : Nat) (el : TypeId) (w : List Int) : Heap := H.set b (.c (cw w) el ep ep)
theorem Wd.put {H : Heap} {b ep : Nat} {el : TypeId} {w : List Int} (h : Wd H b ep el w) (w' : List Int) : Wd (putW H b ep el w') b ep el w' := by
  unfold Wd putW; rw [List.getElem?_set_self (lt_of_get h)]
theorem Wd.same {H : Heap} {b ep : Nat} {el : TypeId} {w : List Int} (h : Wd H b ep el w) : putW H b ep el w = H := by
  unfold Wd at h; unfold putW
  refine List.ext_getElem? fun i => ?_
  rw [List.getElem?_set]
  by_cases c : b = i
  · subst c; rw [if_pos rfl, if_pos (lt_of_get h), h]
  · rw [if_neg c]

theorem Wd.ix {T : Tab} {H : Heap} {b ep : Nat} {el : TypeId} {w : List Int} {t e : TypeId} {i j : TI} {len n : Nat} {k : IntKind} (h : Wd H b ep el w) (hl : w.length = len) (ht : T t = some i) (hi : i.und = .array len e) (he : T e = some j) (hj : j.size = 1) (hn : n < len) :
    indexAddrA T H t (.ptr b ep 0) (.int k (n : Int)) = some (.ptr b ep n) := by
  unfold Wd at h
  have e2 : 0 + n * 1 = n := by omega
  have hp : ptrOK H b ep n = true := by
    unfold ptrOK
    rw [h]
    simp only [cw_length, Bool.and_eq_true, decide_eq_true_eq]
    exact ⟨trivial, by omega⟩
  unfold indexAddrA
  simp only [ht, hi, he, hj, Int.toNat_natCast, e2, hp, if_true]
  rw [if_pos ⟨by decide, by omega, by omega⟩]

theorem Wd.st {T : Tab} {H : Heap} {b ep : Nat} {el : TypeId} {w : List Int} {t : TypeId} {j : TI} {n : Nat} {x : Int} (h : Wd H b ep el w) (hn : n < w.length) (ht : T t = some j) (hj : j.size = 1) :
    storeA T H t (.ptr b ep n) (.int .i64 x) = some (putW H b ep el (w.set n x)) := by
  unfold Wd at h
  have e : setAll (cw w) n (cellsOf (.int .i64 x)) = cw (w.set n x) := by rw [← cw_set]; rfl
  unfold storeA putW
  simp only [ht, h, hj, e]
  rw [if_pos ⟨trivial, rfl, by rw [cw_length]; exact hn, rfl⟩]

theorem shlM {a n : Nat} (hn : n ≤ 64) : shiftOp .shl .u64 (a : Int) (n : Int) = some (.int .u64 ((a * 2 ^ n % 18446744073709551616 : Nat) : Int)) := by
  unfold shiftOp
  rw [if_neg (by omega)]
  have e : min ((n : Int).toNat) (IntKind.bits .u64) = n := by
    show min ((n : Int).toNat) 64 = n
    omega
  simp only [e]
  congr 2

end Go.Proofs.YtpddepehlinfnaaGreatDoor.B
