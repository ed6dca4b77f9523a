/- Part of a claim: what a row of records reads as. Part of a claim: the table of powers of ten reads as it is listed. Part of a claim: listed variables read one behind the other. -/
import Derived.Test.YtpddepehlinfnaaGreatDoorPG2
import Derived.LaidLaws
set_option linter.unusedSimpArgs false
set_option linter.unusedVariables false
namespace Go.Proofs.YtpddepehlinfnaaGreatDoor.B
open Go Go.RowKit Go.Proofs.YtpddepehlinfnaaGreatDoor.E

theorem mapM_some {α β : Type} {f : α → Option β} {F : α → β} : ∀ {l : List α}, (∀ x ∈ l, f x = some (F x)) → l.mapM f = some (l.map F)
  | [], _ => rfl
  | x :: l, h => by
    rw [List.mapM_cons, h x List.mem_cons_self, mapM_some (l := l) fun y hy => h y (List.mem_cons_of_mem _ hy)]
    rfl

theorem mapM_rows {α β : Type} [Inhabited β] {f : Nat → Option β} {g : α → β} (l : List α) (h : ∀ i (hi : i < l.length), f i = some (g l[i])) : (List.range l.length).mapM f = some (l.map g) := by
  rw [mapM_some (F := fun i => if hi : i < l.length then g l[i] else (f i).get!)] 
  · congr 1
    refine List.ext_getElem (by simp) fun i h1 h2 => ?_
    have hi : i < l.length := by simpa using h2
    simp [hi]
  · intro i hi
    have hi' : i < l.length := by simpa using hi
    rw [h i hi', dif_pos hi']

/-- Records of two cells each. -/
theorem pair_at {α β : Type} (c1 c2 : α → β) : ∀ (l : List α) (i : Nat) (hi : i < l.length), ((l.flatMap fun x => [c1 x, c2 x]).drop (i * 2)).take 2 = [c1 l[i], c2 l[i]]
  | x :: l, 0, _ => by simp
  | x :: l, i + 1, hi => by
    rw [show (i + 1) * 2 = i * 2 + 1 + 1 by omega]
    simp only [List.flatMap_cons, List.cons_append, List.nil_append, List.drop_succ_cons]
    rw [pair_at c1 c2 l i (by simpa using hi)]
    simp

end Go.Proofs.YtpddepehlinfnaaGreatDoor.B

set_option linter.unusedSimpArgs false
set_option linter.unusedVariables false
namespace Go.Proofs.YtpddepehlinfnaaGreatDoor.B
open Go Go.RowKit Go.Proofs.YtpddepehlinfnaaGreatDoor.E

def powCells : List Value := Go.Pinned.pow10Rows.flatMap fun x => [.int .u64 x.1, .int .u64 x.2]

theorem pow_wf : (Go.Pinned.pow10Rows.all fun x => decide ((Lit.int .u64 x.1).wf = true) && decide ((Lit.int .u64 x.2).wf = true)) = true := by kernel_rfl
theorem pow_len : Go.Pinned.pow10Rows.length = 696 := by kernel_rfl

theorem trod_pair (w : World) {a b : Nat} (ha : (Lit.int .u64 a).wf = true) (hb : (Lit.int .u64 b).wf = true) : DataW.trod (fun _ => ()) Tryz.prog w 0 (fun _ => true) false 7 192 [.int .u64 a, .int .u64 b] = some (.agg [.lit (.int .u64 a), .lit (.int .u64 b)], []) := by
  have e : DataW.trod (fun _ => ()) Tryz.prog w 0 (fun _ => true) false 7 192 [.int .u64 a, .int .u64 b] = (List.mapM (m := Option) (fun c : Nat => if IntKind.u64 = .u64 ∧ (Lit.int .u64 c).wf = true then some ((.lit (.int .u64 c) : DataW Unit), ([] : List MemPlace)) else none) [a, b]).map fun xs => (.agg (xs.map (·.1)), xs.flatMap (·.2)) := by kernel_rfl
  rw [e, List.mapM_cons, List.mapM_cons, if_pos ⟨rfl, ha⟩, if_pos ⟨rfl, hb⟩]
  rfl

instance : Inhabited (DataW Unit × List MemPlace) := ⟨(.nil, [])⟩

theorem trod_pow (w : World) : DataW.trod (fun _ => ()) Tryz.prog w 0 (fun _ => true) false 8 193 powCells = some (Go.Pinned.pow10Tab, []) := by
  have e : DataW.trod (fun _ => ()) Tryz.prog w 0 (fun _ => true) false 8 193 powCells = (if powCells.length = 1392 then ((List.range 696).mapM fun i => DataW.trod (fun _ => ()) Tryz.prog w 0 (fun _ => true) false 7 192 ((powCells.drop (i * 2)).take 2)).map fun xs => (.agg (xs.map (·.1)), xs.flatMap (·.2)) else none) := by kernel_rfl
  have hl : powCells.length = 1392 := by kernel_rfl
  rw [e, if_pos hl, ← pow_len]
  rw [mapM_rows (g := fun x : Nat × Nat => ((.agg [.lit (.int .u64 x.1), .lit (.int .u64 x.2)] : DataW Unit), ([] : List MemPlace))) Go.Pinned.pow10Rows]
  · simp only [Option.map_some, List.map_map]
    have e2 : (Go.Pinned.pow10Rows.map fun x : Nat × Nat => ((.agg [.lit (.int .u64 x.1), .lit (.int .u64 x.2)] : DataW Unit), ([] : List MemPlace))).flatMap (·.2) = [] := by
      rw [List.flatMap_eq_nil_iff]
      intro y hy
      obtain ⟨x, _, rfl⟩ := List.mem_map.1 hy
      rfl
    rw [e2]
    rfl
  · intro i hi
    have hw := List.all_eq_true.1 pow_wf _ (List.getElem_mem hi)
    simp only [Bool.and_eq_true, decide_eq_true_eq] at hw
    have hp := pair_at (fun x : Nat × Nat => Value.int .u64 x.1) (fun x => Value.int .u64 x.2) Go.Pinned.pow10Rows i hi
    unfold powCells
    rw [hp]
    exact trod_pair w hw.1 hw.2

end Go.Proofs.YtpddepehlinfnaaGreatDoor.B

set_option linter.unusedSimpArgs false
set_option linter.unusedVariables false
namespace Go.Proofs.YtpddepehlinfnaaGreatDoor.B
open Go Go.RowKit Go.Proofs.YtpddepehlinfnaaGreatDoor.E

end Go.Proofs.YtpddepehlinfnaaGreatDoor.B

