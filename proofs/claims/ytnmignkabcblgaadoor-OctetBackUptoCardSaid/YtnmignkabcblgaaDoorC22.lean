/- Part of a claim: bytes in old memory; eight at once. -/
import Derived.Test.YtnmignkabcblgaaDoorC7
import Derived.Test.YtnmignkabcblgaaDoorEB
set_option linter.unusedSimpArgs false
set_option linter.unusedVariables false
set_option maxRecDepth 100000
set_option maxHeartbeats 10000000
namespace Go.Proofs.YtnmignkabcblgaaDoor.C
open Go Go.RowKit Go.Proofs.YtnmignkabcblgaaDoor.E Go.Proofs.YtnmignkabcblgaaDoor.B

/-- A slice of bytes in old memory. -/
inductive OBy (M : Addr → Option AV) : AV → List UInt8 → Prop
  | nil : OBy M .nilslice []
  | old (a : Addr) (c : Nat) (t : List UInt8) (h1 : At M a (cellsB t)) (h2 : t.length ≤ c) : OBy M (.oslice a t.length c) t

namespace OBy
variable {T : Tab} {M : Addr → Option AV} {v : AV} {t : List UInt8}

theorem sees (h : OBy M v t) (H : Heap) : Sees M H 1 v (cellsB t) := by
  cases h with
  | nil => exact .nil
  | old a c _ h1 h2 => exact .old a _ c _ (by simp) h1 h2
theorem capped (h : OBy M v t) : Capped v := by
  intro b e off sz n c hv
  cases h <;> cases hv
theorem len (hT : Ty T) (h : OBy M v t) (ts : List TypeId) : lenB T (24 :: ts) v = some (.int .i64 t.length) := (h.sees []).lenB (by simp) (by omega) hT.ty24 rfl
theorem idx (hT : Ty T) (h : OBy M v t) {k : Nat} {b : UInt8} (hb : t[k]? = some b) (H : Heap) : indexAddrA T H 24 v (.int .i64 (k : Int)) = some (placeA v k 1) := by
  have hl := (List.getElem?_eq_some_iff.1 hb).1
  have := (h.sees H).index (T := T) (k := .i64) (n := (k : Int)) (by omega) (by simp; omega) (by omega) hT.ty24 rfl hT.ty5 rfl
  simpa using this
theorem ld (hT : Ty T) (h : OBy M v t) {k : Nat} {b : UInt8} (hb : t[k]? = some b) (H : Heap) : loadA T M H 5 (placeA v k 1) = some (.int .u8 b.toNat) :=
  (h.sees H).load (x := .int .u8 b.toNat) (by rw [List.getElem?_map, hb]; rfl) hT.ty5 rfl
theorem tail (hT : Ty T) (h : OBy M v t) {k : Nat} (hk : k ≤ t.length) : ∃ v', (∀ H, sliceA T H 24 v (some (.int .i64 (k : Int))) none none = some v') ∧ OBy M v' (t.drop k) := by
  cases h with
  | nil =>
    have h0 : k = 0 := by simpa using hk
    subst h0
    refine ⟨.nilslice, fun H => ?_, .nil⟩
    unfold sliceA
    simp only [hT.ty24, hT.ty5, boundsA, bndA]
    simp
  | old a c _ h1 h2 =>
    obtain ⟨v', k1, k2, k3, k4⟩ := (Sees.old (M := M) (H := []) (sz := 1) a t.length c (cellsB t) (by simp) h1 h2).slice (T := T) (by intro b e off sz n c hv; cases hv) (lo := k) (hi := t.length) hk (by simp) hT.ty24 rfl hT.ty5 rfl (some (.int .i64 k)) none (.inr ⟨_, rfl⟩) (.inl ⟨rfl, by simp⟩)
    have e1 : ∀ H, sliceA T H 24 (.oslice a t.length c) (some (.int .i64 (k : Int))) none none = some (.oslice (if c = k then a else a.add (k * 1)) (t.length - k) (c - k)) := fun H => by
      unfold sliceA
      simp only [hT.ty24, hT.ty5, boundsA, bndA]
      have hk2 : (0 : Int) ≤ k ∧ (k : Int) ≤ t.length := ⟨by omega, by omega⟩
      simp [hk2, hk]
    rw [e1 []] at k1
    cases k1
    refine ⟨_, e1, ?_⟩
    have hcells : (List.take t.length (cellsB t)).drop k = cellsB (t.drop k) := by
      rw [List.take_of_length_le (by simp)]; simp [cellsB, List.map_drop]
    rw [hcells] at k2
    cases k2 with
    | old _ _ _ _ q1 q2 q3 =>
      have := OBy.old (M := M) (if c = k then a else a.add (k * 1)) (c - k) (t.drop k) q2 (by simp; omega)
      rwa [List.length_drop] at this
end OBy

theorem wordBytes (M : Addr → Option AV) (H : Heap) {v : AV} {t : List UInt8} (hv : OBy M v t) (hs : 8 ≤ t.length) : SemF Tryd.prog M 77 [v] H fun r h => r = .int .u64 (wordS t).toNat ∧ h = H := by
  obtain ⟨b0, b1, b2, b3, b4, b5, b6, b7, r, rfl⟩ := eight t hs
  refine fw Tryd.func77 (by kernel_rfl) rfl (by kernel_rfl) fun C L T hT hS => ?_
  have s1 := fun x => shl_bv x 8
  have s2 := fun x => shl_bv x 16
  have s3 := fun x => shl_bv x 24
  have s4 := fun x => shl_bv x 32
  have s5 := fun x => shl_bv x 40
  have s6 := fun x => shl_bv x 48
  have s7 := fun x => shl_bv x 56
  simp only [Nat.reducePow, Int.cast_ofNat_Int] at s1 s2 s3 s4 s5 s6 s7
  have i0 : ∀ H, indexAddrA T H 24 v (.int .i64 0) = some (placeA v 0 1) := hv.idx hT (k := 0) (b := b0) rfl
  have i1 : ∀ H, indexAddrA T H 24 v (.int .i64 1) = some (placeA v 1 1) := hv.idx hT (k := 1) (b := b1) rfl
  have i2 : ∀ H, indexAddrA T H 24 v (.int .i64 2) = some (placeA v 2 1) := hv.idx hT (k := 2) (b := b2) rfl
  have i3 : ∀ H, indexAddrA T H 24 v (.int .i64 3) = some (placeA v 3 1) := hv.idx hT (k := 3) (b := b3) rfl
  have i4 : ∀ H, indexAddrA T H 24 v (.int .i64 4) = some (placeA v 4 1) := hv.idx hT (k := 4) (b := b4) rfl
  have i5 : ∀ H, indexAddrA T H 24 v (.int .i64 5) = some (placeA v 5 1) := hv.idx hT (k := 5) (b := b5) rfl
  have i6 : ∀ H, indexAddrA T H 24 v (.int .i64 6) = some (placeA v 6 1) := hv.idx hT (k := 6) (b := b6) rfl
  have i7 : ∀ H, indexAddrA T H 24 v (.int .i64 7) = some (placeA v 7 1) := hv.idx hT (k := 7) (b := b7) rfl
  have l0 := hv.ld hT (k := 0) (b := b0) rfl
  have l1 := hv.ld hT (k := 1) (b := b1) rfl
  have l2 := hv.ld hT (k := 2) (b := b2) rfl
  have l3 := hv.ld hT (k := 3) (b := b3) rfl
  have l4 := hv.ld hT (k := 4) (b := b4) rfl
  have l5 := hv.ld hT (k := 5) (b := b5) rfl
  have l6 := hv.ld hT (k := 6) (b := b6) rfl
  have l7 := hv.ld hT (k := 7) (b := b7) rfl
  simp only [gX,gM,gL,gB,List.map_cons,List.map_nil,wantedA,evOp,opv,absC,absC0,isAggT,resA,resultA,binA,eqA,eqGuardA,isConstA,isFlatScalar,shiftOp,strOp,ordB,readN,sliceCells,lenA,storeA,newA,buildA,fillA,buildSliceA,boundsA,bndA,sliceA,ptrOK,fieldAddrA,fieldA,indexA,extractA,convA,isIntT,biA,bytesOf,setAll,List.replicate,List.cons.injEq,exists_eq_left',exists_eq_left,exists_eq_right',eq_self,Option.map_some,Option.map_none,Option.bind_some,Option.bind_none,Option.some.injEq,Prod.mk.injEq,Nat.reduceAdd,Nat.reduceSub,Nat.reduceMul,Nat.reduceLT,Nat.reduceLeDiff,Nat.reduceEqDiff,Int.reduceEq,Int.reduceLT,Int.reduceLE,Int.reduceNe,Int.reduceAdd,beq_self_eq_true,Option.bind_eq_bind,Option.pure_def,bind_pure_comp,Option.map_eq_map,decide_eq_true_eq,ne_eq,not_false_eq_true,not_true_eq_false,Nat.lt_irrefl,Nat.reduceBEq,if_true,if_false,ite_true,ite_false,reduceCtorEq,Bool.false_eq_true,lenB_nil,lenB_slice,lenB_oslice,lenB_str,lenB_agg,indexAddrA_slice,indexAddrA_oslice,indexAddrA_ptr,indexAddrA_optr,loadA_ptr,loadA_optr,lenK,indexK,loadK,Option.toList_some,Option.toList_none,Int.reduceBEq,Int.reduceBNe,Int.reduceMod,Int.reduceDiv,Int.reduceTDiv,Int.reduceTMod,Int.reduceFDiv,Int.reduceSub,Int.reduceNeg,Int.reduceGT,Int.reduceGE,BitVec.reduceOfInt,BitVec.reduceAnd,BitVec.reduceOr,BitVec.reduceXOr,BitVec.reduceToNat,Int.cast_ofNat_Int,Int.reduceToNat,Int.reducePow,Nat.min_eq_left,Int.reduceMul,List.mapM_cons,List.mapM_nil,hT.all,Tryd.f77,i0,i1,i2,i3,i4,i5,i6,i7,l0,l1,l2,l3,l4,l5,l6,l7,byte_bv,s1,s2,s3,s4,s5,s6,s7,ofInt_bv,wrap_bv]
  rfl

end Go.Proofs.YtnmignkabcblgaaDoor.C
