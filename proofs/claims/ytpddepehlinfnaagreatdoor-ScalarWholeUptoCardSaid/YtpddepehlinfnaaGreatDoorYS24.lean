/- Part of a claim: rows of floats: made of bits; summed from the left, by halves. -/
import Derived.Test.YtpddepehlinfnaaGreatDoorYS23
set_option linter.unusedSimpArgs false
set_option linter.unusedVariables false
set_option maxRecDepth 100000
set_option maxHeartbeats 10000000
namespace Go.Proofs.YtpddepehlinfnaaGreatDoor.B
open Go Go.RowKit Go.Proofs.YtpddepehlinfnaaGreatDoor.E Go.Proofs.YtpddepehlinfnaaGreatDoor.FL

def fCs (l : List Nat) : List AV := l.map fun n => .float .f64 n
def uCs (l : List Nat) : List AV := l.map fun (n : Nat) => .int .u64 (n : Int)
theorem fCs_length (l : List Nat) : (fCs l).length = l.length := by unfold fCs; rw [List.length_map]
theorem uCs_length (l : List Nat) : (uCs l).length = l.length := by unfold uCs; rw [List.length_map]
theorem fCs_get {l : List Nat} {i x : Nat} (h : l[i]? = some x) : (fCs l)[i]? = some (.float .f64 x) := by unfold fCs; rw [List.getElem?_map, h]; rfl
theorem uCs_get {l : List Nat} {i x : Nat} (h : l[i]? = some x) : (uCs l)[i]? = some (.int .u64 x) := by unfold uCs; rw [List.getElem?_map, h]; rfl
theorem fCs_cell (l : List Nat) : (fCs l).all isCell = true := by
  rw [List.all_eq_true]; intro x hx
  obtain ⟨n, _, rfl⟩ := List.mem_map.1 hx
  rfl
theorem fCs_append (a b : List Nat) : fCs (a ++ b) = fCs a ++ fCs b := List.map_append ..

theorem appF {T : Tab} (hT : Ty T) {M : Addr → Option AV} {H : Heap} {v x : AV} {o : Option Nat} {l new : List Nat} (h : Rep 26 1 H v o (fCs l)) (hx : lenA x = some new.length) (hc : sliceCells M H x 1 = some (fCs new)) (room : l.length + new.length ≤ 1000000000000) :
    ∃ v' o' H', appendA T M H [24, 24] v x = some (v', H') ∧ Rep 26 1 H' v' o' (fCs (l ++ new)) ∧ Fr o.toList H H' ∧ Rep.New H o o' := by
  have := h.append (t := 24) (t2 := 24) (ts := []) (T := T) (M := M) hT.ty24 rfl hT.ty24 rfl hT.ty26 rfl (by omega) (by simp) rfl hx hc (fCs_cell _) (by rw [fCs_length]; simp) (fCs_cell _) (by rw [fCs_length, fCs_length]; simp; omega)
  rw [fCs_append]
  exact this

/-- A row of floats of a call's own, that lies behind what was there. -/
structure Own (H0 h : Heap) (v : AV) (o : Option Nat) (l : List Nat) : Prop where
  rep : Rep 26 1 h v o (fCs l)
  new : ∀ b, o = some b → H0.length ≤ b

theorem Own.app {H0 h h' : Heap} {v v' : AV} {o o' : Option Nat} {l l' : List Nat} (k : Own H0 h v o l) (hl : H0.length ≤ h.length) (hr : Rep 26 1 h' v' o' (fCs l')) (hn : Rep.New h o o') : Own H0 h' v' o' l' :=
  ⟨hr, fun b hb => by
    rcases hn with e | ⟨c, e, hc⟩
    · exact k.new b (by rw [← e]; exact hb)
    · rw [e] at hb; cases hb; omega⟩

/-- One float appended. -/
theorem Own.push {T : Tab} (hT : Ty T) {M : Addr → Option AV} {H0 h : Heap} {v : AV} {o : Option Nat} {l : List Nat} (k : Own H0 h v o l) (hf : Fr [] H0 h) (x : Nat) (room : l.length + 1 ≤ 1000000000000) :
    ∃ v' o' H', appendA T M (h ++ [.c [.float .f64 x] 26 0 0]) [24, 24] v (.slice h.length 0 0 1 1 (some 1)) = some (v', H') ∧ Own H0 H' v' o' (l ++ [x]) ∧ Fr [] H0 H' ∧ Fr o.toList h H' ∧ Rep.New h o o' := by
  have hF : Fr [] h (h ++ [.c [.float .f64 x] 26 0 0]) := Fr.app _ _
  obtain ⟨v', o', H', h1, h2, h3, h4⟩ := appF hT (M := M) (k.rep.mono hF (by simp)) (x := .slice h.length 0 0 1 1 (some 1)) (new := [x]) rfl (by simp [sliceCells, fCs]) (by simpa using room)
  have h5 : Rep.New h o o' := by
    rcases h4 with e | ⟨c, e, hc⟩
    · exact .inl e
    · exact .inr ⟨c, e, by simp at hc; omega⟩
  refine ⟨v', o', H', h1, k.app hf.1 h2 h5, (hf.trans hF (by simp)).trans h3 ?_, (hF.mono (by simp)).trans h3 (fun b hb => .inl hb), h5⟩
  intro b hb
  cases o with
  | none => simp at hb
  | some b' => have := k.new b' rfl; simp at hb; right; omega

/-- The law's row of floats. -/
theorem lFloats (M : Addr → Option AV) {H : Heap} {v : AV} {l : List Nat} (hv : Sees M H 1 v (uCs l)) (hl : l.length ≤ 1048576) :
    SemF Tryz.prog M 14 [v] H fun r h => ∃ o, Own H h r o l ∧ Fr [] H h := by
  refine fw Tryz.func14 (by kernel_rfl) rfl (by kernel_rfl) fun C L T hT hS => ?_
  simp only [gX,gT,gM,gL,gB,wantedA,evOp,opv,absC,absC0,isAggT,resA,resultA,binA,eqA,eqGuardA,isConstA,isFlatScalar,shiftOp,strOp,ordB,readN,sliceCells,lenA,storeA,newA,buildA,fillA,buildSliceA,boundsA,bndA,sliceA,ptrOK,fieldAddrA,fieldA,indexA,extractA,convA,isIntT,biA,bytesOf,setAll,List.replicate,Nat.reduceAdd,Nat.reduceSub,Nat.reduceMul,Nat.reduceLT,Nat.reduceLeDiff,Nat.reduceEqDiff,Int.reduceEq,Int.reduceLT,Int.reduceLE,Int.reduceNe,Int.reduceAdd,Nat.reduceBEq,reduceCtorEq,lenB_nil,lenB_slice,lenB_oslice,lenB_str,lenB_agg,indexAddrA_slice,indexAddrA_oslice,indexAddrA_ptr,indexAddrA_optr,loadA_ptr,loadA_optr,lenK,indexK,loadK,Int.reduceBEq,Int.reduceBNe,Int.reduceMod,Int.reduceDiv,Int.reduceTDiv,Int.reduceTMod,Int.reduceFDiv,Int.reduceSub,Int.reduceNeg,Int.reduceGT,Int.reduceGE,BitVec.reduceOfInt,BitVec.reduceAnd,BitVec.reduceOr,BitVec.reduceXOr,BitVec.reduceToNat,Int.reduceToNat,Int.reducePow,Int.reduceMul,hT.all,Tryz.f14]
  refine hS.loop (fun m e h => ∃ (i : Nat) (w j1 : AV) (o : Option Nat) (j : List AV), e = v :: j1 :: .nilslice :: w :: .int .i64 i :: j ∧ j.length = 15 ∧ i + m = l.length ∧ Own H h w o (l.take i) ∧ Fr [] H h) l.length ⟨0, .nilslice, _, none, _, rfl, rfl, by omega, ⟨.nil, fun b hb => by cases hb⟩, Fr.refl _ _⟩ ?_
  rintro m e h ⟨i, w, j1, o, j, rfl, hj, hi, ho, hf⟩ J hJ
  obtain ⟨g, rfl⟩ : ∃ g : Nat → AV, j = [g 0, g 1, g 2, g 3, g 4, g 5, g 6, g 7, g 8, g 9, g 10, g 11, g 12, g 13, g 14] := junk 15 j hj
  have hv2 : Sees M h 1 v (uCs l) := hv.mono hf (by simp)
  have e1 : ∀ ts, lenB T (22 :: ts) v = some (.int .i64 l.length) := fun ts => hv2.lenB (by rw [uCs_length]; omega) (by omega) hT.ty22 rfl
  by_cases hlt : i < l.length
  rotate_left
  · have g1 : ¬ (i : Int) < l.length := by omega
    simp only [gX,gT,gM,gL,gB,wantedA,evOp,opv,absC,absC0,isAggT,resA,resultA,binA,eqA,eqGuardA,isConstA,isFlatScalar,shiftOp,strOp,ordB,readN,sliceCells,lenA,storeA,newA,buildA,fillA,buildSliceA,boundsA,bndA,sliceA,ptrOK,fieldAddrA,fieldA,indexA,extractA,convA,isIntT,biA,bytesOf,setAll,List.replicate,Nat.reduceAdd,Nat.reduceSub,Nat.reduceMul,Nat.reduceLT,Nat.reduceLeDiff,Nat.reduceEqDiff,Int.reduceEq,Int.reduceLT,Int.reduceLE,Int.reduceNe,Int.reduceAdd,Nat.reduceBEq,reduceCtorEq,lenB_nil,lenB_slice,lenB_oslice,lenB_str,lenB_agg,indexAddrA_slice,indexAddrA_oslice,indexAddrA_ptr,indexAddrA_optr,loadA_ptr,loadA_optr,lenK,indexK,loadK,Int.reduceBEq,Int.reduceBNe,Int.reduceMod,Int.reduceDiv,Int.reduceTDiv,Int.reduceTMod,Int.reduceFDiv,Int.reduceSub,Int.reduceNeg,Int.reduceGT,Int.reduceGE,BitVec.reduceOfInt,BitVec.reduceAnd,BitVec.reduceOr,BitVec.reduceXOr,BitVec.reduceToNat,Int.reduceToNat,Int.reducePow,Int.reduceMul,hT.all,e1,g1]
    rw [List.take_of_length_le (by omega)] at ho
    exact ⟨o, ho, hf⟩
  have g1 : (i : Int) < l.length := by omega
  obtain ⟨x, hx⟩ : ∃ x, l[i]? = some x := ⟨_, List.getElem?_eq_getElem hlt⟩
  have e2 : indexAddrA T h 22 v (.int .i64 (i : Int)) = some (placeA v i 1) := by
    have := hv2.index (T := T) (k := .i64) (n := (i : Int)) (by omega) (by rw [uCs_length]; omega) (by omega) hT.ty22 rfl hT.ty23 rfl
    simpa using this
  have e3 : loadA T M h 23 (placeA v i 1) = some (.int .u64 x) := hv2.load (uCs_get hx) hT.ty23 rfl
  have hwi : IntKind.i64.wrap ((i : Int) + 1) = ((i + 1 : Nat) : Int) := by rw [wrap_i64 (by omega) (by omega)]; omega
  obtain ⟨w', o', H', ha, ho', hf', _⟩ := ho.push hT (M := M) hf x (by simp; omega)
  have htk : l.take i ++ [x] = l.take (i + 1) := by rw [List.take_add_one, hx]; rfl
  rw [htk] at ho'
  simp only [gX,gT,gM,gL,gB,wantedA,evOp,opv,absC,absC0,isAggT,resA,resultA,binA,eqA,eqGuardA,isConstA,isFlatScalar,shiftOp,strOp,ordB,readN,sliceCells,lenA,storeA,newA,buildA,fillA,buildSliceA,boundsA,bndA,sliceA,ptrOK,fieldAddrA,fieldA,indexA,extractA,convA,isIntT,biA,bytesOf,setAll,List.replicate,Nat.reduceAdd,Nat.reduceSub,Nat.reduceMul,Nat.reduceLT,Nat.reduceLeDiff,Nat.reduceEqDiff,Int.reduceEq,Int.reduceLT,Int.reduceLE,Int.reduceNe,Int.reduceAdd,Nat.reduceBEq,reduceCtorEq,lenB_nil,lenB_slice,lenB_oslice,lenB_str,lenB_agg,indexAddrA_slice,indexAddrA_oslice,indexAddrA_ptr,indexAddrA_optr,loadA_ptr,loadA_optr,lenK,indexK,loadK,Int.reduceBEq,Int.reduceBNe,Int.reduceMod,Int.reduceDiv,Int.reduceTDiv,Int.reduceTMod,Int.reduceFDiv,Int.reduceSub,Int.reduceNeg,Int.reduceGT,Int.reduceGE,BitVec.reduceOfInt,BitVec.reduceAnd,BitVec.reduceOr,BitVec.reduceXOr,BitVec.reduceToNat,Int.reduceToNat,Int.reducePow,Int.reduceMul,hT.all,e1,e2,e3,g1]
  refine hS.one (rOf M _ x) ?_
  simp only [gX,gT,gM,gL,gB,wantedA,evOp,opv,absC,absC0,isAggT,resA,resultA,binA,eqA,eqGuardA,isConstA,isFlatScalar,shiftOp,strOp,ordB,readN,sliceCells,lenA,storeA,newA,buildA,fillA,buildSliceA,boundsA,bndA,sliceA,ptrOK,fieldAddrA,fieldA,indexA,extractA,convA,isIntT,biA,bytesOf,setAll,List.replicate,Nat.reduceAdd,Nat.reduceSub,Nat.reduceMul,Nat.reduceLT,Nat.reduceLeDiff,Nat.reduceEqDiff,Int.reduceEq,Int.reduceLT,Int.reduceLE,Int.reduceNe,Int.reduceAdd,Nat.reduceBEq,reduceCtorEq,lenB_nil,lenB_slice,lenB_oslice,lenB_str,lenB_agg,indexAddrA_slice,indexAddrA_oslice,indexAddrA_ptr,indexAddrA_optr,loadA_ptr,loadA_optr,lenK,indexK,loadK,Int.reduceBEq,Int.reduceBNe,Int.reduceMod,Int.reduceDiv,Int.reduceTDiv,Int.reduceTMod,Int.reduceFDiv,Int.reduceSub,Int.reduceNeg,Int.reduceGT,Int.reduceGE,BitVec.reduceOfInt,BitVec.reduceAnd,BitVec.reduceOr,BitVec.reduceXOr,BitVec.reduceToNat,Int.reduceToNat,Int.reducePow,Int.reduceMul,hT.all,ha,hwi]
  exact hJ (m - 1) _ _ _ (by omega) (Weak.refl _) ⟨i + 1, w', _, o', _, rfl, rfl, by omega, ho', hf'⟩

end Go.Proofs.YtpddepehlinfnaaGreatDoor.B
