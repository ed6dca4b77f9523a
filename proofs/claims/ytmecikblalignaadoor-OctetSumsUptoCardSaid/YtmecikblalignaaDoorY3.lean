/- Part of a claim: the law's "Own": two slices, written to their ends, and grown to their capacities. -/
import Derived.Test.YtmecikblalignaaDoorY2
import Derived.Test.YtmecikblalignaaDoorSP
set_option linter.unusedSimpArgs false
set_option linter.unusedVariables false
set_option maxRecDepth 100000
set_option maxHeartbeats 10000000
namespace Go.Proofs.YtmecikblalignaaDoor.B
open Go Go.RowKit Go.Proofs.YtmecikblalignaaDoor.E

theorem wrap_le {x : Int} (h : 0 ≤ x) : IntKind.i64.wrap x ≤ x ∧ IntKind.i64.wrap x < 9223372036854775808 := by
  have e : IntKind.i64.wrap x = if x % 18446744073709551616 ≥ 9223372036854775808 then x % 18446744073709551616 - 18446744073709551616 else x % 18446744073709551616 := by
    simp [IntKind.wrap, IntKind.bits, IntKind.signed]
  rw [e]
  split <;> omega

/-- Two slices side by side in a block, and what their cells hold by now. -/
structure Ow (B : Nat) (bk ep n c : Nat → Nat) (H0 h : Heap) (f : Nat → Nat → Prop) : Prop where
  hB : h[B]? = some (.c [.slice (bk 0) (ep 0) 0 1 (n 0) (some (c 0)), .slice (bk 1) (ep 1) 0 1 (n 1) (some (c 1))] 23 0 0)
  blk : ∀ i, i < 2 → ∃ cs sep, h[bk i]? = some (.c cs 5 (ep i) sep) ∧ sep ≤ ep i ∧ cs.length = c i ∧ ∀ k, f i k → k < n i → cs[k]? = some (.int .u8 (2 * (i : Int)))
  fr : Fr [bk 0, bk 1] H0 h

structure Fits (B : Nat) (bk n c : Nat → Nat) : Prop where
  ne : bk 0 ≠ bk 1
  nB : ∀ i, i < 2 → B ≠ bk i
  le : ∀ i, i < 2 → n i ≤ c i ∧ n i < 1000000000000000

variable {B : Nat} {bk ep n c : Nat → Nat} {H0 h : Heap} {f f' : Nat → Nat → Prop}

theorem Ow.mono (w : Ow B bk ep n c H0 h f) (hf : ∀ i k, f' i k → f i k) : Ow B bk ep n c H0 h f' :=
  ⟨w.hB, fun i hi => let ⟨cs, sep, q1, q2, q3, q4⟩ := w.blk i hi; ⟨cs, sep, q1, q2, q3, fun k hk => q4 k (hf i k hk)⟩, w.fr⟩

theorem Ow.app (w : Ow B bk ep n c H0 h f) (G : Heap) : Ow B bk ep n c H0 (h ++ G) f :=
  ⟨(Fr.app h G).get w.hB (by simp), fun i hi => let ⟨cs, sep, q1, q2, q3, q4⟩ := w.blk i hi; ⟨cs, sep, (Fr.app h G).get q1 (by simp), q2, q3, q4⟩, w.fr.trans (Fr.app h G) (by simp)⟩

theorem Ow.put (F : Fits B bk n c) (w : Ow B bk ep n c H0 h f) {i : Nat} (hi : i < 2) {cs : List AV} (hl : cs.length = c i) (hk : ∀ k, f' i k → k < n i → cs[k]? = some (.int .u8 (2 * (i : Int))))
    (hf : ∀ i' k, i' ≠ i → f' i' k → f i' k) : Ow B bk ep n c H0 (h.set (bk i) (.c cs 5 (ep i) (ep i))) f' := by
  obtain ⟨cs0, sep0, q1, _⟩ := w.blk i hi
  refine ⟨by rw [List.getElem?_set_ne (fun e => F.nB i hi e.symm)]; exact w.hB, fun i' hi' => ?_, w.fr.trans (Fr.set _ _ _) (by
    intro b hb
    rw [List.mem_singleton] at hb; subst hb
    rcases (show i = 0 ∨ i = 1 by omega) with rfl | rfl <;> simp)⟩
  by_cases e : i' = i
  · subst e
    exact ⟨cs, ep i', by rw [List.getElem?_set_self (lt_of_get q1)], Nat.le_refl _, hl, hk⟩
  · obtain ⟨cs1, sep1, p1, p2, p3, p4⟩ := w.blk i' hi'
    have hne : bk i ≠ bk i' := by
      have := F.ne
      rcases (show (i = 0 ∧ i' = 1) ∨ (i = 1 ∧ i' = 0) by omega) with ⟨rfl, rfl⟩ | ⟨rfl, rfl⟩
      · exact this
      · exact fun e => this e.symm
    exact ⟨cs1, sep1, by rw [List.getElem?_set_ne hne]; exact p1, p2, p3, fun k hk => p4 k (hf i' k e hk)⟩

/-- The element of the pair that is taken out. -/
theorem Ow.elem {T : Tab} (hT : Ty T) {M : Addr → Option AV} (w : Ow B bk ep n c H0 h f) {i : Nat} (hi : i < 2) :
    indexAddrA T h 22 (.slice B 0 0 1 2 (some 2)) (.int .i64 (i : Int)) = some (.ptr B 0 i) ∧ loadA T M h 23 (.ptr B 0 i) = some (.slice (bk i) (ep i) 0 1 (n i) (some (c i))) := by
  have hs : Sees M h 1 (.slice B 0 0 1 2 (some 2)) [.slice (bk 0) (ep 0) 0 1 (n 0) (some (c 0)), .slice (bk 1) (ep 1) 0 1 (n 1) (some (c 1))] := .own B 0 0 2 (some 2) _ _ 0 0 _ w.hB (Nat.le_refl _) (by simp) rfl
  have e1 := hs.index (T := T) (k := .i64) (n := (i : Int)) (by omega) (by simp; omega) (by omega) hT.ty22 rfl hT.ty23 rfl
  have hc : ([.slice (bk 0) (ep 0) 0 1 (n 0) (some (c 0)), .slice (bk 1) (ep 1) 0 1 (n 1) (some (c 1))] : List AV)[i]? = some (.slice (bk i) (ep i) 0 1 (n i) (some (c i))) := by
    rcases (show i = 0 ∨ i = 1 by omega) with rfl | rfl <;> rfl
  have e2 := hs.load (T := T) (n := i) hc hT.ty23 rfl
  have hp : placeA (.slice B 0 0 1 2 (some 2)) i 1 = .ptr B 0 i := by simp [placeA]
  rw [Int.toNat_natCast] at e1
  rw [hp] at e1 e2
  exact ⟨e1, e2⟩

theorem capB_some {T : Tab} (hT : Ty T) {ts : List TypeId} {b e m c : Nat} : capB T (23 :: ts) (.slice b e 0 1 m (some c)) = some (.int .i64 c) := by
  simp only [capB, hT.ty23]

/-- A byte stored within the slice. -/
theorem Ow.byte {T : Tab} (hT : Ty T) (w : Ow B bk ep n c H0 h f) (F : Fits B bk n c) {i k : Nat} (hi : i < 2) (hk : k < n i) (v : Int) :
    ∃ cs sep, h[bk i]? = some (.c cs 5 (ep i) sep) ∧ cs.length = c i ∧ (∀ k, f i k → k < n i → cs[k]? = some (.int .u8 (2 * (i : Int)))) ∧
      indexAddrA T h 23 (.slice (bk i) (ep i) 0 1 (n i) (some (c i))) (.int .i64 (k : Int)) = some (.ptr (bk i) (ep i) k) ∧
      storeA T h 5 (.ptr (bk i) (ep i) k) (.int .u8 v) = some (h.set (bk i) (.c (cs.set k (.int .u8 v)) 5 (ep i) (ep i))) := by
  obtain ⟨cs, sep, q1, q2, q3, q4⟩ := w.blk i hi
  have hle := F.le i hi
  have hs : Sees (fun _ => none) h 1 (.slice (bk i) (ep i) 0 1 (n i) (some (c i))) (cs.take (n i)) := .own _ _ 0 _ _ _ _ _ _ _ q1 q2 (by omega) (by simp)
  have e1 := hs.index (T := T) (k := .i64) (n := (k : Int)) (by omega) (by simp; omega) (by omega) hT.ty23 rfl hT.ty5 rfl
  have hp : placeA (.slice (bk i) (ep i) 0 1 (n i) (some (c i))) k 1 = .ptr (bk i) (ep i) k := by simp [placeA]
  rw [Int.toNat_natCast, hp] at e1
  refine ⟨cs, sep, q1, q3, q4, e1, ?_⟩
  simp only [storeA, hT.ty5, q1, cellsOf_int, List.length_cons, List.length_nil, List.all_cons, List.all_nil, isCell_int, setAll]
  rw [if_pos ⟨trivial, trivial, by omega, rfl⟩]

/-- A byte read. -/
theorem Ow.read {T : Tab} (hT : Ty T) {M : Addr → Option AV} (w : Ow B bk ep n c H0 h f) (F : Fits B bk n c) {i k : Nat} (hi : i < 2) (hk : k < n i) (hf : f i k) :
    indexAddrA T h 23 (.slice (bk i) (ep i) 0 1 (n i) (some (c i))) (.int .i64 (k : Int)) = some (.ptr (bk i) (ep i) k) ∧ loadA T M h 5 (.ptr (bk i) (ep i) k) = some (.int .u8 (2 * (i : Int))) := by
  obtain ⟨cs, sep, q1, q2, q3, q4⟩ := w.blk i hi
  have hle := F.le i hi
  have hs : Sees M h 1 (.slice (bk i) (ep i) 0 1 (n i) (some (c i))) (cs.take (n i)) := .own _ _ 0 _ _ _ _ _ _ _ q1 q2 (by omega) (by simp)
  have e1 := hs.index (T := T) (k := .i64) (n := (k : Int)) (by omega) (by simp; omega) (by omega) hT.ty23 rfl hT.ty5 rfl
  have hp : placeA (.slice (bk i) (ep i) 0 1 (n i) (some (c i))) k 1 = .ptr (bk i) (ep i) k := by simp [placeA]
  have e2 := hs.load (T := T) (n := k) (x := .int .u8 (2 * (i : Int))) (by rw [List.getElem?_take, if_pos hk]; exact q4 k hf hk) hT.ty5 rfl
  rw [Int.toNat_natCast, hp] at e1
  rw [hp] at e2
  exact ⟨e1, e2⟩

/-- One byte appended where there is room. -/
theorem Ow.grow {T : Tab} (hT : Ty T) {M : Addr → Option AV} (w : Ow B bk ep n c H0 h f) (F : Fits B bk n c) {i m : Nat} (hi : i < 2) (hm : n i ≤ m) (hc : m < c i) (v : Int) :
    ∃ h2, appendA T M (h ++ [.c [.int .u8 v] 5 0 0]) [23, 23] (.slice (bk i) (ep i) 0 1 m (some (c i))) (.slice h.length 0 0 1 1 (some 1)) = some (.slice (bk i) (ep i) 0 1 (m + 1) (some (c i)), h2) ∧ Ow B bk ep n c H0 h2 f := by
  have w1 := w.app [HB.c [.int .u8 v] 5 0 0]
  obtain ⟨cs, sep, q1, q2, q3, q4⟩ := w1.blk i hi
  have hx : (h ++ [HB.c [.int .u8 v] 5 0 0])[h.length]? = some (.c [.int .u8 v] 5 0 0) := by simp
  have hlt : m + 1 ≤ c i := hc
  refine ⟨(h ++ [HB.c [.int .u8 v] 5 0 0]).set (bk i) (.c (cs.set m (.int .u8 v)) 5 (ep i) (ep i)), ?_, w1.put F hi (by simpa using q3) (fun k hf hk => ?_) (fun i' k _ hf => hf)⟩
  · simp [appendA, hT.ty23, hT.ty5, isIntT, lenA, sliceCells, hx, isCell_int, q1, hlt, q3, setAll, cellsOf, absC, absC0]
  · rw [List.getElem?_set_ne (by omega)]; exact q4 k hf hk


theorem pOwn (M : Addr → Option AV) (w : Ow B bk ep n c H0 h fun _ _ => False) (F : Fits B bk n c) :
    SemF Tryd.prog M 12 [.slice B 0 0 1 2 (some 2)] h fun r h' => r = .bool true ∧ Fr [bk 0, bk 1] H0 h' := by
  refine fw Tryd.func12 (by kernel_rfl) rfl (by kernel_rfl) fun C L T hT hS => ?_
  simp only [gX,gM,gL,gB,List.map_cons,List.map_nil,wantedA,evOp,opv,absC,absC0,isAggT,resA,resultA,binA,eqA,eqGuardA,isConstA,isFlatScalar,shiftOp,strOp,ordB,readN,sliceCells,lenA,storeA,newA,buildA,fillA,buildSliceA,boundsA,bndA,sliceA,ptrOK,fieldAddrA,fieldA,indexA,extractA,convA,isIntT,biA,bytesOf,setAll,List.replicate,List.cons.injEq,exists_eq_left',exists_eq_left,exists_eq_right',eq_self,Option.map_some,Option.map_none,Option.bind_some,Option.bind_none,Option.some.injEq,Prod.mk.injEq,Nat.reduceAdd,Nat.reduceSub,Nat.reduceMul,Nat.reduceLT,Nat.reduceLeDiff,Nat.reduceEqDiff,Int.reduceEq,Int.reduceLT,Int.reduceLE,Int.reduceNe,Int.reduceAdd,beq_self_eq_true,Option.bind_eq_bind,Option.pure_def,bind_pure_comp,Option.map_eq_map,decide_eq_true_eq,ne_eq,not_false_eq_true,not_true_eq_false,Nat.lt_irrefl,Nat.reduceBEq,if_true,if_false,ite_true,ite_false,reduceCtorEq,Bool.false_eq_true,lenB_nil,lenB_slice,lenB_oslice,lenB_str,lenB_agg,indexAddrA_slice,indexAddrA_oslice,indexAddrA_ptr,indexAddrA_optr,loadA_ptr,loadA_optr,lenK,indexK,loadK,Option.toList_some,Option.toList_none,Int.reduceBEq,Int.reduceBNe,Int.reduceMod,Int.reduceDiv,Int.reduceTDiv,Int.reduceTMod,Int.reduceFDiv,Int.reduceSub,Int.reduceNeg,Int.reduceGT,Int.reduceGE,BitVec.reduceOfInt,BitVec.reduceAnd,BitVec.reduceOr,BitVec.reduceXOr,BitVec.reduceToNat,Int.cast_ofNat_Int,Int.reduceToNat,Int.reducePow,Nat.min_eq_left,Int.reduceMul,List.mapM_cons,List.mapM_nil,hT.all,Tryd.f12]
  refine hS.loop (fun m e h => ∃ (i : Nat) (j : List AV), e = .slice B 0 0 1 2 (some 2) :: .tup [] :: .bool false :: .int .i64 i :: j ∧ j.length = 92 ∧ i + m = 2 ∧ Ow B bk ep n c H0 h fun i' _ => i' < i) 2 ⟨0, _, rfl, rfl, rfl, w.mono fun _ _ h => absurd h (by omega)⟩ ?_
  rintro m e h ⟨i, j, rfl, hj, hi, w⟩ J hJ
  obtain ⟨g, rfl⟩ : ∃ g : Nat → AV, j = [g 0, g 1, g 2, g 3, g 4, g 5, g 6, g 7, g 8, g 9, g 10, g 11, g 12, g 13, g 14, g 15, g 16, g 17, g 18, g 19, g 20, g 21, g 22, g 23, g 24, g 25, g 26, g 27, g 28, g 29, g 30, g 31, g 32, g 33, g 34, g 35, g 36, g 37, g 38, g 39, g 40, g 41, g 42, g 43, g 44, g 45, g 46, g 47, g 48, g 49, g 50, g 51, g 52, g 53, g 54, g 55, g 56, g 57, g 58, g 59, g 60, g 61, g 62, g 63, g 64, g 65, g 66, g 67, g 68, g 69, g 70, g 71, g 72, g 73, g 74, g 75, g 76, g 77, g 78, g 79, g 80, g 81, g 82, g 83, g 84, g 85, g 86, g 87, g 88, g 89, g 90, g 91] := junk 92 j hj
  by_cases hlt : i < 2
  · have g1 : (i : Int) < 2 := by omega
    have hwi : IntKind.i64.wrap ((i : Int) + 1) = ((i + 1 : Nat) : Int) := by rw [wrap_i64 (by omega) (by omega)]; omega
    have hw2 : IntKind.i64.wrap (2 * (i : Int)) = 2 * (i : Int) := wrap_i64 (by omega) (by omega)
    have hw8 : IntKind.u8.wrap (2 * (i : Int)) = 2 * (i : Int) := by
      have : IntKind.u8.wrap (2 * (i : Int)) = (2 * (i : Int)) % 256 := rfl
      rw [this]; omega
    simp only [gX,gM,gL,gB,List.map_cons,List.map_nil,wantedA,evOp,opv,absC,absC0,isAggT,resA,resultA,binA,eqA,eqGuardA,isConstA,isFlatScalar,shiftOp,strOp,ordB,readN,sliceCells,lenA,storeA,newA,buildA,fillA,buildSliceA,boundsA,bndA,sliceA,ptrOK,fieldAddrA,fieldA,indexA,extractA,convA,isIntT,biA,bytesOf,setAll,List.replicate,List.cons.injEq,exists_eq_left',exists_eq_left,exists_eq_right',eq_self,Option.map_some,Option.map_none,Option.bind_some,Option.bind_none,Option.some.injEq,Prod.mk.injEq,Nat.reduceAdd,Nat.reduceSub,Nat.reduceMul,Nat.reduceLT,Nat.reduceLeDiff,Nat.reduceEqDiff,Int.reduceEq,Int.reduceLT,Int.reduceLE,Int.reduceNe,Int.reduceAdd,beq_self_eq_true,Option.bind_eq_bind,Option.pure_def,bind_pure_comp,Option.map_eq_map,decide_eq_true_eq,ne_eq,not_false_eq_true,not_true_eq_false,Nat.lt_irrefl,Nat.reduceBEq,if_true,if_false,ite_true,ite_false,reduceCtorEq,Bool.false_eq_true,lenB_nil,lenB_slice,lenB_oslice,lenB_str,lenB_agg,indexAddrA_slice,indexAddrA_oslice,indexAddrA_ptr,indexAddrA_optr,loadA_ptr,loadA_optr,lenK,indexK,loadK,Option.toList_some,Option.toList_none,Int.reduceBEq,Int.reduceBNe,Int.reduceMod,Int.reduceDiv,Int.reduceTDiv,Int.reduceTMod,Int.reduceFDiv,Int.reduceSub,Int.reduceNeg,Int.reduceGT,Int.reduceGE,BitVec.reduceOfInt,BitVec.reduceAnd,BitVec.reduceOr,BitVec.reduceXOr,BitVec.reduceToNat,Int.cast_ofNat_Int,Int.reduceToNat,Int.reducePow,Nat.min_eq_left,Int.reduceMul,List.mapM_cons,List.mapM_nil,hT.all,g1]
    refine hS.loop (fun m' e h => ∃ (k : Nat) (j : List AV), e = .slice B 0 0 1 2 (some 2) :: .tup [] :: .bool false :: .int .i64 i :: .int .i64 k :: j ∧ j.length = 91 ∧ k + m' = n i ∧ Ow B bk ep n c H0 h fun i' k' => i' < i ∨ (i' = i ∧ k' < k)) (n i) ⟨0, _, rfl, rfl, by omega, w.mono fun _ _ h => by omega⟩ ?_
    clear hj w
    rintro m' e h ⟨k, j, rfl, hj, hk, w⟩ J' hJ'
    obtain ⟨g, rfl⟩ : ∃ g : Nat → AV, j = [g 0, g 1, g 2, g 3, g 4, g 5, g 6, g 7, g 8, g 9, g 10, g 11, g 12, g 13, g 14, g 15, g 16, g 17, g 18, g 19, g 20, g 21, g 22, g 23, g 24, g 25, g 26, g 27, g 28, g 29, g 30, g 31, g 32, g 33, g 34, g 35, g 36, g 37, g 38, g 39, g 40, g 41, g 42, g 43, g 44, g 45, g 46, g 47, g 48, g 49, g 50, g 51, g 52, g 53, g 54, g 55, g 56, g 57, g 58, g 59, g 60, g 61, g 62, g 63, g 64, g 65, g 66, g 67, g 68, g 69, g 70, g 71, g 72, g 73, g 74, g 75, g 76, g 77, g 78, g 79, g 80, g 81, g 82, g 83, g 84, g 85, g 86, g 87, g 88, g 89, g 90] := junk 91 j hj
    obtain ⟨e1, e2⟩ := w.elem hT (M := M) hlt
    have hle := F.le i hlt
    by_cases hlk : k < n i
    · have g2 : (k : Int) < (n i : Int) := by omega
      have hwk : IntKind.i64.wrap ((k : Int) + 1) = ((k + 1 : Nat) : Int) := by rw [wrap_i64 (by omega) (by omega)]; omega
      obtain ⟨cs, sep, q1, q3, q4, e3, e4⟩ := w.byte hT F hlt hlk (2 * (i : Int))
      simp only [gX,gM,gL,gB,List.map_cons,List.map_nil,wantedA,evOp,opv,absC,absC0,isAggT,resA,resultA,binA,eqA,eqGuardA,isConstA,isFlatScalar,shiftOp,strOp,ordB,readN,sliceCells,lenA,newA,buildA,fillA,buildSliceA,boundsA,bndA,sliceA,ptrOK,fieldAddrA,fieldA,indexA,extractA,convA,isIntT,biA,bytesOf,setAll,List.replicate,List.cons.injEq,exists_eq_left',exists_eq_left,exists_eq_right',eq_self,Option.map_some,Option.map_none,Option.bind_some,Option.bind_none,Option.some.injEq,Prod.mk.injEq,Nat.reduceAdd,Nat.reduceSub,Nat.reduceMul,Nat.reduceLT,Nat.reduceLeDiff,Nat.reduceEqDiff,Int.reduceEq,Int.reduceLT,Int.reduceLE,Int.reduceNe,Int.reduceAdd,beq_self_eq_true,Option.bind_eq_bind,Option.pure_def,bind_pure_comp,Option.map_eq_map,decide_eq_true_eq,ne_eq,not_false_eq_true,not_true_eq_false,Nat.lt_irrefl,Nat.reduceBEq,if_true,if_false,ite_true,ite_false,reduceCtorEq,Bool.false_eq_true,lenB_nil,lenB_slice,lenB_oslice,lenB_str,lenB_agg,indexAddrA_slice,indexAddrA_oslice,indexAddrA_ptr,indexAddrA_optr,loadA_ptr,loadA_optr,lenK,indexK,loadK,Option.toList_some,Option.toList_none,Int.reduceBEq,Int.reduceBNe,Int.reduceMod,Int.reduceDiv,Int.reduceTDiv,Int.reduceTMod,Int.reduceFDiv,Int.reduceSub,Int.reduceNeg,Int.reduceGT,Int.reduceGE,BitVec.reduceOfInt,BitVec.reduceAnd,BitVec.reduceOr,BitVec.reduceXOr,BitVec.reduceToNat,Int.cast_ofNat_Int,Int.reduceToNat,Int.reducePow,Nat.min_eq_left,Int.reduceMul,List.mapM_cons,List.mapM_nil,hT.all,g2,e1,e2,hw2,hw8,hwk,e3,e4]
      refine hJ' (m' - 1) _ _ _ (by omega) (Weak.refl _) ⟨k + 1, _, rfl, rfl, by omega, w.put F hlt (by simpa using q3) (fun k' hf hkn => ?_) (fun i' k' hne hf => by omega)⟩
      rw [List.getElem?_set]
      split
      · rename_i hkk
        subst hkk
        rw [if_pos (by omega)]
      · exact q4 k' (by omega) hkn
    · have g2 : ¬ (k : Int) < (n i : Int) := by omega
      simp only [gX,gM,gL,gB,List.map_cons,List.map_nil,wantedA,evOp,opv,absC,absC0,isAggT,resA,resultA,binA,eqA,eqGuardA,isConstA,isFlatScalar,shiftOp,strOp,ordB,readN,sliceCells,lenA,storeA,newA,buildA,fillA,buildSliceA,boundsA,bndA,sliceA,ptrOK,fieldAddrA,fieldA,indexA,extractA,convA,isIntT,biA,bytesOf,setAll,List.replicate,List.cons.injEq,exists_eq_left',exists_eq_left,exists_eq_right',eq_self,Option.map_some,Option.map_none,Option.bind_some,Option.bind_none,Option.some.injEq,Prod.mk.injEq,Nat.reduceAdd,Nat.reduceSub,Nat.reduceMul,Nat.reduceLT,Nat.reduceLeDiff,Nat.reduceEqDiff,Int.reduceEq,Int.reduceLT,Int.reduceLE,Int.reduceNe,Int.reduceAdd,beq_self_eq_true,Option.bind_eq_bind,Option.pure_def,bind_pure_comp,Option.map_eq_map,decide_eq_true_eq,ne_eq,not_false_eq_true,not_true_eq_false,Nat.lt_irrefl,Nat.reduceBEq,if_true,if_false,ite_true,ite_false,reduceCtorEq,Bool.false_eq_true,lenB_nil,lenB_slice,lenB_oslice,lenB_str,lenB_agg,indexAddrA_slice,indexAddrA_oslice,indexAddrA_ptr,indexAddrA_optr,loadA_ptr,loadA_optr,lenK,indexK,loadK,Option.toList_some,Option.toList_none,Int.reduceBEq,Int.reduceBNe,Int.reduceMod,Int.reduceDiv,Int.reduceTDiv,Int.reduceTMod,Int.reduceFDiv,Int.reduceSub,Int.reduceNeg,Int.reduceGT,Int.reduceGE,BitVec.reduceOfInt,BitVec.reduceAnd,BitVec.reduceOr,BitVec.reduceXOr,BitVec.reduceToNat,Int.cast_ofNat_Int,Int.reduceToNat,Int.reducePow,Nat.min_eq_left,Int.reduceMul,List.mapM_cons,List.mapM_nil,hT.all,g2,e1,e2,hwi]
      refine hJ (m - 1) _ _ _ (by omega) (Weak.refl _) ⟨i + 1, _, rfl, rfl, by omega, ⟨w.hB, fun i' hi' => ?_, w.fr⟩⟩
      obtain ⟨cs, sep, q1, q2, q3, q4⟩ := w.blk i' hi'
      refine ⟨cs, sep, q1, q2, q3, fun k' hf hkn => q4 k' ?_ hkn⟩
      by_cases hii : i' = i
      · subst hii; exact .inr ⟨rfl, by omega⟩
      · exact .inl (by omega)
  have g1 : ¬ (i : Int) < 2 := by omega
  replace w : Ow B bk ep n c H0 h fun _ _ => True := ⟨w.hB, fun i' hi' => let ⟨cs, sep, q1, q2, q3, q4⟩ := w.blk i' hi'; ⟨cs, sep, q1, q2, q3, fun k' _ hkn => q4 k' (by omega) hkn⟩, w.fr⟩
  clear hJ
  simp only [gX,gM,gL,gB,List.map_cons,List.map_nil,wantedA,evOp,opv,absC,absC0,isAggT,resA,resultA,binA,eqA,eqGuardA,isConstA,isFlatScalar,shiftOp,strOp,ordB,readN,sliceCells,lenA,storeA,newA,buildA,fillA,buildSliceA,boundsA,bndA,sliceA,ptrOK,fieldAddrA,fieldA,indexA,extractA,convA,isIntT,biA,bytesOf,setAll,List.replicate,List.cons.injEq,exists_eq_left',exists_eq_left,exists_eq_right',eq_self,Option.map_some,Option.map_none,Option.bind_some,Option.bind_none,Option.some.injEq,Prod.mk.injEq,Nat.reduceAdd,Nat.reduceSub,Nat.reduceMul,Nat.reduceLT,Nat.reduceLeDiff,Nat.reduceEqDiff,Int.reduceEq,Int.reduceLT,Int.reduceLE,Int.reduceNe,Int.reduceAdd,beq_self_eq_true,Option.bind_eq_bind,Option.pure_def,bind_pure_comp,Option.map_eq_map,decide_eq_true_eq,ne_eq,not_false_eq_true,not_true_eq_false,Nat.lt_irrefl,Nat.reduceBEq,if_true,if_false,ite_true,ite_false,reduceCtorEq,Bool.false_eq_true,lenB_nil,lenB_slice,lenB_oslice,lenB_str,lenB_agg,indexAddrA_slice,indexAddrA_oslice,indexAddrA_ptr,indexAddrA_optr,loadA_ptr,loadA_optr,lenK,indexK,loadK,Option.toList_some,Option.toList_none,Int.reduceBEq,Int.reduceBNe,Int.reduceMod,Int.reduceDiv,Int.reduceTDiv,Int.reduceTMod,Int.reduceFDiv,Int.reduceSub,Int.reduceNeg,Int.reduceGT,Int.reduceGE,BitVec.reduceOfInt,BitVec.reduceAnd,BitVec.reduceOr,BitVec.reduceXOr,BitVec.reduceToNat,Int.cast_ofNat_Int,Int.reduceToNat,Int.reducePow,Nat.min_eq_left,Int.reduceMul,List.mapM_cons,List.mapM_nil,hT.all,g1]
  refine hS.loop (fun m e h => ∃ (i : Nat) (j3 j4 : AV) (j : List AV), e = .slice B 0 0 1 2 (some 2) :: .tup [] :: .bool false :: j3 :: j4 :: .int .i64 i :: j ∧ j.length = 90 ∧ i + m = 2 ∧ Ow B bk ep n c H0 h fun _ _ => True) 2 ⟨0, _, _, _, rfl, rfl, rfl, w⟩ ?_
  clear hlt g1 hi w
  rintro m e h ⟨i, j3, j4, j, rfl, hj, hi, w⟩ J hJ
  obtain ⟨g, rfl⟩ : ∃ g : Nat → AV, j = [g 0, g 1, g 2, g 3, g 4, g 5, g 6, g 7, g 8, g 9, g 10, g 11, g 12, g 13, g 14, g 15, g 16, g 17, g 18, g 19, g 20, g 21, g 22, g 23, g 24, g 25, g 26, g 27, g 28, g 29, g 30, g 31, g 32, g 33, g 34, g 35, g 36, g 37, g 38, g 39, g 40, g 41, g 42, g 43, g 44, g 45, g 46, g 47, g 48, g 49, g 50, g 51, g 52, g 53, g 54, g 55, g 56, g 57, g 58, g 59, g 60, g 61, g 62, g 63, g 64, g 65, g 66, g 67, g 68, g 69, g 70, g 71, g 72, g 73, g 74, g 75, g 76, g 77, g 78, g 79, g 80, g 81, g 82, g 83, g 84, g 85, g 86, g 87, g 88, g 89] := junk 90 j hj
  by_cases hlt : i < 2
  · have g1 : (i : Int) < 2 := by omega
    have hwi : IntKind.i64.wrap ((i : Int) + 1) = ((i + 1 : Nat) : Int) := by rw [wrap_i64 (by omega) (by omega)]; omega
    have hw2 : IntKind.i64.wrap (2 * (i : Int)) = 2 * (i : Int) := wrap_i64 (by omega) (by omega)
    have hw3 : IntKind.i64.wrap (2 * (i : Int) + 1) = 2 * (i : Int) + 1 := wrap_i64 (by omega) (by omega)
    have hle := F.le i hlt
    obtain ⟨mo, hmo⟩ : ∃ mo, IntKind.i64.wrap ((c i : Int) - (n i : Int)) = mo := ⟨_, rfl⟩
    have hmb := wrap_le (x := (c i : Int) - (n i : Int)) (by omega)
    rw [hmo] at hmb
    obtain ⟨e1, e2⟩ := w.elem hT (M := M) hlt
    simp only [gX,gM,gL,gB,List.map_cons,List.map_nil,wantedA,evOp,opv,absC,absC0,isAggT,resA,resultA,binA,eqA,eqGuardA,isConstA,isFlatScalar,shiftOp,strOp,ordB,readN,sliceCells,lenA,storeA,newA,buildA,fillA,buildSliceA,boundsA,bndA,sliceA,ptrOK,fieldAddrA,fieldA,indexA,extractA,convA,isIntT,biA,bytesOf,setAll,List.replicate,List.cons.injEq,exists_eq_left',exists_eq_left,exists_eq_right',eq_self,Option.map_some,Option.map_none,Option.bind_some,Option.bind_none,Option.some.injEq,Prod.mk.injEq,Nat.reduceAdd,Nat.reduceSub,Nat.reduceMul,Nat.reduceLT,Nat.reduceLeDiff,Nat.reduceEqDiff,Int.reduceEq,Int.reduceLT,Int.reduceLE,Int.reduceNe,Int.reduceAdd,beq_self_eq_true,Option.bind_eq_bind,Option.pure_def,bind_pure_comp,Option.map_eq_map,decide_eq_true_eq,ne_eq,not_false_eq_true,not_true_eq_false,Nat.lt_irrefl,Nat.reduceBEq,if_true,if_false,ite_true,ite_false,reduceCtorEq,Bool.false_eq_true,lenB_nil,lenB_slice,lenB_oslice,lenB_str,lenB_agg,indexAddrA_slice,indexAddrA_oslice,indexAddrA_ptr,indexAddrA_optr,loadA_ptr,loadA_optr,lenK,indexK,loadK,Option.toList_some,Option.toList_none,Int.reduceBEq,Int.reduceBNe,Int.reduceMod,Int.reduceDiv,Int.reduceTDiv,Int.reduceTMod,Int.reduceFDiv,Int.reduceSub,Int.reduceNeg,Int.reduceGT,Int.reduceGE,BitVec.reduceOfInt,BitVec.reduceAnd,BitVec.reduceOr,BitVec.reduceXOr,BitVec.reduceToNat,Int.cast_ofNat_Int,Int.reduceToNat,Int.reducePow,Nat.min_eq_left,Int.reduceMul,List.mapM_cons,List.mapM_nil,hT.all,g1,e1,e2,capB_some hT,hmo]
    refine hS.loop (fun m' e h => ∃ (k : Nat) (j : List AV), e = .slice B 0 0 1 2 (some 2) :: .tup [] :: .bool false :: j3 :: j4 :: .int .i64 i :: .int .i64 (n i) :: .int .i64 mo :: .slice (bk i) (ep i) 0 1 (n i + k) (some (c i)) :: .int .i64 k :: j ∧ j.length = 86 ∧ k + m' = mo.toNat ∧ Ow B bk ep n c H0 h fun _ _ => True) mo.toNat ⟨0, _, rfl, rfl, by omega, w⟩ ?_
    clear hj w e1 e2
    rintro m' e h ⟨k, j, rfl, hj, hk, w⟩ J' hJ'
    obtain ⟨g, rfl⟩ : ∃ g : Nat → AV, j = [g 0, g 1, g 2, g 3, g 4, g 5, g 6, g 7, g 8, g 9, g 10, g 11, g 12, g 13, g 14, g 15, g 16, g 17, g 18, g 19, g 20, g 21, g 22, g 23, g 24, g 25, g 26, g 27, g 28, g 29, g 30, g 31, g 32, g 33, g 34, g 35, g 36, g 37, g 38, g 39, g 40, g 41, g 42, g 43, g 44, g 45, g 46, g 47, g 48, g 49, g 50, g 51, g 52, g 53, g 54, g 55, g 56, g 57, g 58, g 59, g 60, g 61, g 62, g 63, g 64, g 65, g 66, g 67, g 68, g 69, g 70, g 71, g 72, g 73, g 74, g 75, g 76, g 77, g 78, g 79, g 80, g 81, g 82, g 83, g 84, g 85] := junk 86 j hj
    by_cases hlk : (k : Int) < mo
    · have hwk : IntKind.i64.wrap ((k : Int) + 1) = ((k + 1 : Nat) : Int) := by rw [wrap_i64 (by omega) (by omega)]; omega
      obtain ⟨h2, ha, w2⟩ := w.grow hT (M := M) F hlt (m := n i + k) (by omega) (by omega) (IntKind.u8.wrap (2 * (i : Int) + 1))
      simp only [gX,gM,gL,gB,List.map_cons,List.map_nil,wantedA,evOp,opv,absC,absC0,isAggT,resA,resultA,binA,eqA,eqGuardA,isConstA,isFlatScalar,shiftOp,strOp,ordB,readN,sliceCells,lenA,storeA,newA,buildA,fillA,buildSliceA,boundsA,bndA,sliceA,ptrOK,fieldAddrA,fieldA,indexA,extractA,convA,isIntT,biA,bytesOf,setAll,List.replicate,List.cons.injEq,exists_eq_left',exists_eq_left,exists_eq_right',eq_self,Option.map_some,Option.map_none,Option.bind_some,Option.bind_none,Option.some.injEq,Prod.mk.injEq,Nat.reduceAdd,Nat.reduceSub,Nat.reduceMul,Nat.reduceLT,Nat.reduceLeDiff,Nat.reduceEqDiff,Int.reduceEq,Int.reduceLT,Int.reduceLE,Int.reduceNe,Int.reduceAdd,beq_self_eq_true,Option.bind_eq_bind,Option.pure_def,bind_pure_comp,Option.map_eq_map,decide_eq_true_eq,ne_eq,not_false_eq_true,not_true_eq_false,Nat.lt_irrefl,Nat.reduceBEq,if_true,if_false,ite_true,ite_false,reduceCtorEq,Bool.false_eq_true,lenB_nil,lenB_slice,lenB_oslice,lenB_str,lenB_agg,indexAddrA_slice,indexAddrA_oslice,indexAddrA_ptr,indexAddrA_optr,loadA_ptr,loadA_optr,lenK,indexK,loadK,Option.toList_some,Option.toList_none,Int.reduceBEq,Int.reduceBNe,Int.reduceMod,Int.reduceDiv,Int.reduceTDiv,Int.reduceTMod,Int.reduceFDiv,Int.reduceSub,Int.reduceNeg,Int.reduceGT,Int.reduceGE,BitVec.reduceOfInt,BitVec.reduceAnd,BitVec.reduceOr,BitVec.reduceXOr,BitVec.reduceToNat,Int.cast_ofNat_Int,Int.reduceToNat,Int.reducePow,Nat.min_eq_left,Int.reduceMul,List.mapM_cons,List.mapM_nil,hT.all,hlk,hw2,hw3,hwk,ha]
      exact hJ' (m' - 1) _ _ _ (by omega) (Weak.refl _) ⟨k + 1, _, rfl, rfl, by omega, w2⟩
    · simp only [gX,gM,gL,gB,List.map_cons,List.map_nil,wantedA,evOp,opv,absC,absC0,isAggT,resA,resultA,binA,eqA,eqGuardA,isConstA,isFlatScalar,shiftOp,strOp,ordB,readN,sliceCells,lenA,storeA,newA,buildA,fillA,buildSliceA,boundsA,bndA,sliceA,ptrOK,fieldAddrA,fieldA,indexA,extractA,convA,isIntT,biA,bytesOf,setAll,List.replicate,List.cons.injEq,exists_eq_left',exists_eq_left,exists_eq_right',eq_self,Option.map_some,Option.map_none,Option.bind_some,Option.bind_none,Option.some.injEq,Prod.mk.injEq,Nat.reduceAdd,Nat.reduceSub,Nat.reduceMul,Nat.reduceLT,Nat.reduceLeDiff,Nat.reduceEqDiff,Int.reduceEq,Int.reduceLT,Int.reduceLE,Int.reduceNe,Int.reduceAdd,beq_self_eq_true,Option.bind_eq_bind,Option.pure_def,bind_pure_comp,Option.map_eq_map,decide_eq_true_eq,ne_eq,not_false_eq_true,not_true_eq_false,Nat.lt_irrefl,Nat.reduceBEq,if_true,if_false,ite_true,ite_false,reduceCtorEq,Bool.false_eq_true,lenB_nil,lenB_slice,lenB_oslice,lenB_str,lenB_agg,indexAddrA_slice,indexAddrA_oslice,indexAddrA_ptr,indexAddrA_optr,loadA_ptr,loadA_optr,lenK,indexK,loadK,Option.toList_some,Option.toList_none,Int.reduceBEq,Int.reduceBNe,Int.reduceMod,Int.reduceDiv,Int.reduceTDiv,Int.reduceTMod,Int.reduceFDiv,Int.reduceSub,Int.reduceNeg,Int.reduceGT,Int.reduceGE,BitVec.reduceOfInt,BitVec.reduceAnd,BitVec.reduceOr,BitVec.reduceXOr,BitVec.reduceToNat,Int.cast_ofNat_Int,Int.reduceToNat,Int.reducePow,Nat.min_eq_left,Int.reduceMul,List.mapM_cons,List.mapM_nil,hT.all,hlk,hwi]
      exact hJ (m - 1) _ _ _ (by omega) (Weak.refl _) ⟨i + 1, _, _, _, rfl, rfl, by omega, w⟩
  have g1 : ¬ (i : Int) < 2 := by omega
  clear hJ
  simp only [gX,gM,gL,gB,List.map_cons,List.map_nil,wantedA,evOp,opv,absC,absC0,isAggT,resA,resultA,binA,eqA,eqGuardA,isConstA,isFlatScalar,shiftOp,strOp,ordB,readN,sliceCells,lenA,storeA,newA,buildA,fillA,buildSliceA,boundsA,bndA,sliceA,ptrOK,fieldAddrA,fieldA,indexA,extractA,convA,isIntT,biA,bytesOf,setAll,List.replicate,List.cons.injEq,exists_eq_left',exists_eq_left,exists_eq_right',eq_self,Option.map_some,Option.map_none,Option.bind_some,Option.bind_none,Option.some.injEq,Prod.mk.injEq,Nat.reduceAdd,Nat.reduceSub,Nat.reduceMul,Nat.reduceLT,Nat.reduceLeDiff,Nat.reduceEqDiff,Int.reduceEq,Int.reduceLT,Int.reduceLE,Int.reduceNe,Int.reduceAdd,beq_self_eq_true,Option.bind_eq_bind,Option.pure_def,bind_pure_comp,Option.map_eq_map,decide_eq_true_eq,ne_eq,not_false_eq_true,not_true_eq_false,Nat.lt_irrefl,Nat.reduceBEq,if_true,if_false,ite_true,ite_false,reduceCtorEq,Bool.false_eq_true,lenB_nil,lenB_slice,lenB_oslice,lenB_str,lenB_agg,indexAddrA_slice,indexAddrA_oslice,indexAddrA_ptr,indexAddrA_optr,loadA_ptr,loadA_optr,lenK,indexK,loadK,Option.toList_some,Option.toList_none,Int.reduceBEq,Int.reduceBNe,Int.reduceMod,Int.reduceDiv,Int.reduceTDiv,Int.reduceTMod,Int.reduceFDiv,Int.reduceSub,Int.reduceNeg,Int.reduceGT,Int.reduceGE,BitVec.reduceOfInt,BitVec.reduceAnd,BitVec.reduceOr,BitVec.reduceXOr,BitVec.reduceToNat,Int.cast_ofNat_Int,Int.reduceToNat,Int.reducePow,Nat.min_eq_left,Int.reduceMul,List.mapM_cons,List.mapM_nil,hT.all,g1]
  refine hS.loop (fun m e h => ∃ (i : Nat) (j3 j4 j5 j6 j7 j8 j9 : AV) (j : List AV), e = .slice B 0 0 1 2 (some 2) :: .tup [] :: .bool false :: j3 :: j4 :: j5 :: j6 :: j7 :: j8 :: j9 :: .int .i64 i :: j ∧ j.length = 85 ∧ i + m = 2 ∧ Ow B bk ep n c H0 h fun _ _ => True) 2 ⟨0, _, _, _, _, _, _, _, _, rfl, rfl, rfl, w⟩ ?_
  clear hlt g1 hi w
  rintro m e h ⟨i, j3, j4, j5, j6, j7, j8, j9, j, rfl, hj, hi, w⟩ J hJ
  obtain ⟨g, rfl⟩ : ∃ g : Nat → AV, j = [g 0, g 1, g 2, g 3, g 4, g 5, g 6, g 7, g 8, g 9, g 10, g 11, g 12, g 13, g 14, g 15, g 16, g 17, g 18, g 19, g 20, g 21, g 22, g 23, g 24, g 25, g 26, g 27, g 28, g 29, g 30, g 31, g 32, g 33, g 34, g 35, g 36, g 37, g 38, g 39, g 40, g 41, g 42, g 43, g 44, g 45, g 46, g 47, g 48, g 49, g 50, g 51, g 52, g 53, g 54, g 55, g 56, g 57, g 58, g 59, g 60, g 61, g 62, g 63, g 64, g 65, g 66, g 67, g 68, g 69, g 70, g 71, g 72, g 73, g 74, g 75, g 76, g 77, g 78, g 79, g 80, g 81, g 82, g 83, g 84] := junk 85 j hj
  by_cases hlt : i < 2
  · have g1 : (i : Int) < 2 := by omega
    have hwi : IntKind.i64.wrap ((i : Int) + 1) = ((i + 1 : Nat) : Int) := by rw [wrap_i64 (by omega) (by omega)]; omega
    have hw2 : IntKind.i64.wrap (2 * (i : Int)) = 2 * (i : Int) := wrap_i64 (by omega) (by omega)
    have hw8 : IntKind.u8.wrap (2 * (i : Int)) = 2 * (i : Int) := by
      have : IntKind.u8.wrap (2 * (i : Int)) = (2 * (i : Int)) % 256 := rfl
      rw [this]; omega
    have hle := F.le i hlt
    simp only [gX,gM,gL,gB,List.map_cons,List.map_nil,wantedA,evOp,opv,absC,absC0,isAggT,resA,resultA,binA,eqA,eqGuardA,isConstA,isFlatScalar,shiftOp,strOp,ordB,readN,sliceCells,lenA,storeA,newA,buildA,fillA,buildSliceA,boundsA,bndA,sliceA,ptrOK,fieldAddrA,fieldA,indexA,extractA,convA,isIntT,biA,bytesOf,setAll,List.replicate,List.cons.injEq,exists_eq_left',exists_eq_left,exists_eq_right',eq_self,Option.map_some,Option.map_none,Option.bind_some,Option.bind_none,Option.some.injEq,Prod.mk.injEq,Nat.reduceAdd,Nat.reduceSub,Nat.reduceMul,Nat.reduceLT,Nat.reduceLeDiff,Nat.reduceEqDiff,Int.reduceEq,Int.reduceLT,Int.reduceLE,Int.reduceNe,Int.reduceAdd,beq_self_eq_true,Option.bind_eq_bind,Option.pure_def,bind_pure_comp,Option.map_eq_map,decide_eq_true_eq,ne_eq,not_false_eq_true,not_true_eq_false,Nat.lt_irrefl,Nat.reduceBEq,if_true,if_false,ite_true,ite_false,reduceCtorEq,Bool.false_eq_true,lenB_nil,lenB_slice,lenB_oslice,lenB_str,lenB_agg,indexAddrA_slice,indexAddrA_oslice,indexAddrA_ptr,indexAddrA_optr,loadA_ptr,loadA_optr,lenK,indexK,loadK,Option.toList_some,Option.toList_none,Int.reduceBEq,Int.reduceBNe,Int.reduceMod,Int.reduceDiv,Int.reduceTDiv,Int.reduceTMod,Int.reduceFDiv,Int.reduceSub,Int.reduceNeg,Int.reduceGT,Int.reduceGE,BitVec.reduceOfInt,BitVec.reduceAnd,BitVec.reduceOr,BitVec.reduceXOr,BitVec.reduceToNat,Int.cast_ofNat_Int,Int.reduceToNat,Int.reducePow,Nat.min_eq_left,Int.reduceMul,List.mapM_cons,List.mapM_nil,hT.all,g1]
    refine hS.loop (fun m' e h => ∃ (k : Nat) (j : List AV), e = .slice B 0 0 1 2 (some 2) :: .tup [] :: .bool false :: j3 :: j4 :: j5 :: j6 :: j7 :: j8 :: j9 :: .int .i64 i :: .int .i64 k :: j ∧ j.length = 84 ∧ k + m' = n i ∧ Ow B bk ep n c H0 h fun _ _ => True) (n i) ⟨0, _, rfl, rfl, by omega, w⟩ ?_
    clear hj w
    rintro m' e h ⟨k, j, rfl, hj, hk, w⟩ J' hJ'
    obtain ⟨g, rfl⟩ : ∃ g : Nat → AV, j = [g 0, g 1, g 2, g 3, g 4, g 5, g 6, g 7, g 8, g 9, g 10, g 11, g 12, g 13, g 14, g 15, g 16, g 17, g 18, g 19, g 20, g 21, g 22, g 23, g 24, g 25, g 26, g 27, g 28, g 29, g 30, g 31, g 32, g 33, g 34, g 35, g 36, g 37, g 38, g 39, g 40, g 41, g 42, g 43, g 44, g 45, g 46, g 47, g 48, g 49, g 50, g 51, g 52, g 53, g 54, g 55, g 56, g 57, g 58, g 59, g 60, g 61, g 62, g 63, g 64, g 65, g 66, g 67, g 68, g 69, g 70, g 71, g 72, g 73, g 74, g 75, g 76, g 77, g 78, g 79, g 80, g 81, g 82, g 83] := junk 84 j hj
    obtain ⟨e1, e2⟩ := w.elem hT (M := M) hlt
    by_cases hlk : k < n i
    · have g2 : (k : Int) < (n i : Int) := by omega
      have hwk : IntKind.i64.wrap ((k : Int) + 1) = ((k + 1 : Nat) : Int) := by rw [wrap_i64 (by omega) (by omega)]; omega
      obtain ⟨e3, e4⟩ := w.read hT (M := M) F hlt hlk trivial
      have hne : (2 * (i : Int) != 2 * (i : Int)) = false := by simp
      simp only [gX,gM,gL,gB,List.map_cons,List.map_nil,wantedA,evOp,opv,absC,absC0,isAggT,resA,resultA,binA,eqA,eqGuardA,isConstA,isFlatScalar,shiftOp,strOp,ordB,readN,sliceCells,lenA,storeA,newA,buildA,fillA,buildSliceA,boundsA,bndA,sliceA,ptrOK,fieldAddrA,fieldA,indexA,extractA,convA,isIntT,biA,bytesOf,setAll,List.replicate,List.cons.injEq,exists_eq_left',exists_eq_left,exists_eq_right',eq_self,Option.map_some,Option.map_none,Option.bind_some,Option.bind_none,Option.some.injEq,Prod.mk.injEq,Nat.reduceAdd,Nat.reduceSub,Nat.reduceMul,Nat.reduceLT,Nat.reduceLeDiff,Nat.reduceEqDiff,Int.reduceEq,Int.reduceLT,Int.reduceLE,Int.reduceNe,Int.reduceAdd,beq_self_eq_true,Option.bind_eq_bind,Option.pure_def,bind_pure_comp,Option.map_eq_map,decide_eq_true_eq,ne_eq,not_false_eq_true,not_true_eq_false,Nat.lt_irrefl,Nat.reduceBEq,if_true,if_false,ite_true,ite_false,reduceCtorEq,Bool.false_eq_true,lenB_nil,lenB_slice,lenB_oslice,lenB_str,lenB_agg,indexAddrA_slice,indexAddrA_oslice,indexAddrA_ptr,indexAddrA_optr,loadA_ptr,loadA_optr,lenK,indexK,loadK,Option.toList_some,Option.toList_none,Int.reduceBEq,Int.reduceBNe,Int.reduceMod,Int.reduceDiv,Int.reduceTDiv,Int.reduceTMod,Int.reduceFDiv,Int.reduceSub,Int.reduceNeg,Int.reduceGT,Int.reduceGE,BitVec.reduceOfInt,BitVec.reduceAnd,BitVec.reduceOr,BitVec.reduceXOr,BitVec.reduceToNat,Int.cast_ofNat_Int,Int.reduceToNat,Int.reducePow,Nat.min_eq_left,Int.reduceMul,List.mapM_cons,List.mapM_nil,hT.all,g2,e1,e2,hw2,hw8,hwk,e3,e4,hne]
      exact hJ' (m' - 1) _ _ _ (by omega) (Weak.refl _) ⟨k + 1, _, rfl, rfl, by omega, w⟩
    · have g2 : ¬ (k : Int) < (n i : Int) := by omega
      simp only [gX,gM,gL,gB,List.map_cons,List.map_nil,wantedA,evOp,opv,absC,absC0,isAggT,resA,resultA,binA,eqA,eqGuardA,isConstA,isFlatScalar,shiftOp,strOp,ordB,readN,sliceCells,lenA,storeA,newA,buildA,fillA,buildSliceA,boundsA,bndA,sliceA,ptrOK,fieldAddrA,fieldA,indexA,extractA,convA,isIntT,biA,bytesOf,setAll,List.replicate,List.cons.injEq,exists_eq_left',exists_eq_left,exists_eq_right',eq_self,Option.map_some,Option.map_none,Option.bind_some,Option.bind_none,Option.some.injEq,Prod.mk.injEq,Nat.reduceAdd,Nat.reduceSub,Nat.reduceMul,Nat.reduceLT,Nat.reduceLeDiff,Nat.reduceEqDiff,Int.reduceEq,Int.reduceLT,Int.reduceLE,Int.reduceNe,Int.reduceAdd,beq_self_eq_true,Option.bind_eq_bind,Option.pure_def,bind_pure_comp,Option.map_eq_map,decide_eq_true_eq,ne_eq,not_false_eq_true,not_true_eq_false,Nat.lt_irrefl,Nat.reduceBEq,if_true,if_false,ite_true,ite_false,reduceCtorEq,Bool.false_eq_true,lenB_nil,lenB_slice,lenB_oslice,lenB_str,lenB_agg,indexAddrA_slice,indexAddrA_oslice,indexAddrA_ptr,indexAddrA_optr,loadA_ptr,loadA_optr,lenK,indexK,loadK,Option.toList_some,Option.toList_none,Int.reduceBEq,Int.reduceBNe,Int.reduceMod,Int.reduceDiv,Int.reduceTDiv,Int.reduceTMod,Int.reduceFDiv,Int.reduceSub,Int.reduceNeg,Int.reduceGT,Int.reduceGE,BitVec.reduceOfInt,BitVec.reduceAnd,BitVec.reduceOr,BitVec.reduceXOr,BitVec.reduceToNat,Int.cast_ofNat_Int,Int.reduceToNat,Int.reducePow,Nat.min_eq_left,Int.reduceMul,List.mapM_cons,List.mapM_nil,hT.all,g2,e1,e2,hwi]
      exact hJ (m - 1) _ _ _ (by omega) (Weak.refl _) ⟨i + 1, _, _, _, _, _, _, _, _, rfl, rfl, by omega, w⟩
  have g1 : ¬ (i : Int) < 2 := by omega
  simp only [gX,gM,gL,gB,List.map_cons,List.map_nil,wantedA,evOp,opv,absC,absC0,isAggT,resA,resultA,binA,eqA,eqGuardA,isConstA,isFlatScalar,shiftOp,strOp,ordB,readN,sliceCells,lenA,storeA,newA,buildA,fillA,buildSliceA,boundsA,bndA,sliceA,ptrOK,fieldAddrA,fieldA,indexA,extractA,convA,isIntT,biA,bytesOf,setAll,List.replicate,List.cons.injEq,exists_eq_left',exists_eq_left,exists_eq_right',eq_self,Option.map_some,Option.map_none,Option.bind_some,Option.bind_none,Option.some.injEq,Prod.mk.injEq,Nat.reduceAdd,Nat.reduceSub,Nat.reduceMul,Nat.reduceLT,Nat.reduceLeDiff,Nat.reduceEqDiff,Int.reduceEq,Int.reduceLT,Int.reduceLE,Int.reduceNe,Int.reduceAdd,beq_self_eq_true,Option.bind_eq_bind,Option.pure_def,bind_pure_comp,Option.map_eq_map,decide_eq_true_eq,ne_eq,not_false_eq_true,not_true_eq_false,Nat.lt_irrefl,Nat.reduceBEq,if_true,if_false,ite_true,ite_false,reduceCtorEq,Bool.false_eq_true,lenB_nil,lenB_slice,lenB_oslice,lenB_str,lenB_agg,indexAddrA_slice,indexAddrA_oslice,indexAddrA_ptr,indexAddrA_optr,loadA_ptr,loadA_optr,lenK,indexK,loadK,Option.toList_some,Option.toList_none,Int.reduceBEq,Int.reduceBNe,Int.reduceMod,Int.reduceDiv,Int.reduceTDiv,Int.reduceTMod,Int.reduceFDiv,Int.reduceSub,Int.reduceNeg,Int.reduceGT,Int.reduceGE,BitVec.reduceOfInt,BitVec.reduceAnd,BitVec.reduceOr,BitVec.reduceXOr,BitVec.reduceToNat,Int.cast_ofNat_Int,Int.reduceToNat,Int.reducePow,Nat.min_eq_left,Int.reduceMul,List.mapM_cons,List.mapM_nil,hT.all,g1]
  exact w.fr

/-- The call: what it leaves of the two is not spoken of any more. -/
theorem own2 (M : Addr → Option AV) {H : Heap} {B : Nat} {va vb : AV} {oa ob : Option Nat} {xs ys : List UInt8} (hB : H[B]? = some (.c [va, vb] 23 0 0)) (ha : Rep 5 1 H va oa (cellsB xs)) (hb : Rep 5 1 H vb ob (cellsB ys))
    (hx : 0 < xs.length) (hy : 0 < ys.length) (hx2 : xs.length < 1000000000000000) (hy2 : ys.length < 1000000000000000) (hne : oa ≠ ob) (h1 : oa ≠ some B) (h2 : ob ≠ some B) :
    SemF Tryd.prog M 12 [.slice B 0 0 1 2 (some 2)] H fun r h => r = .bool true ∧ Fr (B :: (oa.toList ++ ob.toList)) H h := by
  have lx : (cellsB xs).length = xs.length := by simp
  have ly : (cellsB ys).length = ys.length := by simp
  generalize cellsB xs = cx at ha lx
  generalize cellsB ys = cy at hb ly
  cases ha with
  | nil => simp at lx; omega
  | empty b ep sep q1 q2 => simp at lx; omega
  | own ba ea sa na _ q1 q2 q3 =>
    cases hb with
    | nil => simp at ly; omega
    | empty b ep sep q1 q2 => simp at ly; omega
    | own bb eb sb nb _ r1 r2 r3 =>
      have n1 : ba ≠ bb := fun e => hne (by rw [e])
      have n2 : B ≠ ba := fun e => h1 (by rw [e])
      have n3 : B ≠ bb := fun e => h2 (by rw [e])
      refine (SemF.spare2 (P := Tryd.prog) (M := M) (k := 12) (args := [.slice B 0 0 1 2 (some 2)]) (Q := fun r => r = .bool true) hB q1 r1 (by omega) (by omega) (by omega) (by omega) n1 n2 n3 fun c1 c2 xa xb hc1 hc2 => ?_).mono fun v h ⟨g1, g2⟩ => ⟨g1, ?_⟩
      · have l1 := lt_of_get q1
        have l2 := lt_of_get r1
        have l3 := lt_of_get hB
        obtain ⟨K, hK⟩ : ∃ K, ((H.set ba (.c (cx ++ xa) 5 ea sa)).set bb (.c (cy ++ xb) 5 eb sb)).set B (.c [.slice ba ea 0 1 na (some c1), .slice bb eb 0 1 nb (some c2)] 23 0 0) = K := ⟨_, rfl⟩
        rw [hK]
        have kB : K[B]? = some (.c [.slice ba ea 0 1 na (some c1), .slice bb eb 0 1 nb (some c2)] 23 0 0) := by
          rw [← hK, List.getElem?_set_self (by simpa using l3)]
        have ka : K[ba]? = some (.c (cx ++ xa) 5 ea sa) := by
          rw [← hK, List.getElem?_set_ne n2, List.getElem?_set_ne (fun e => n1 e.symm), List.getElem?_set_self l1]
        have kb : K[bb]? = some (.c (cy ++ xb) 5 eb sb) := by
          rw [← hK, List.getElem?_set_ne n3, List.getElem?_set_self (by simpa using l2)]
        have w : Ow B (fun i => if i = 0 then ba else bb) (fun i => if i = 0 then ea else eb) (fun i => if i = 0 then na else nb) (fun i => if i = 0 then c1 else c2) K K fun _ _ => False := by
          refine ⟨kB, fun i hi => ?_, Fr.refl _ _⟩
          rcases (show i = 0 ∨ i = 1 by omega) with rfl | rfl
          · exact ⟨_, _, ka, q2, by show (cx ++ xa).length = c1; rw [List.length_append]; omega, fun k hf => hf.elim⟩
          · exact ⟨_, _, kb, r2, by show (cy ++ xb).length = c2; rw [List.length_append]; omega, fun k hf => hf.elim⟩
        have F : Fits B (fun i => if i = 0 then ba else bb) (fun i => if i = 0 then na else nb) (fun i => if i = 0 then c1 else c2) := by
          refine ⟨n1, fun i hi => ?_, fun i hi => ?_⟩
          · rcases (show i = 0 ∨ i = 1 by omega) with rfl | rfl
            · exact n2
            · exact n3
          · rcases (show i = 0 ∨ i = 1 by omega) with rfl | rfl
            · show na ≤ c1 ∧ na < _; omega
            · show nb ≤ c2 ∧ nb < _; omega
        refine (pOwn M w F).mono fun v h ⟨g1, g2⟩ => ⟨by rw [g1]; rfl, g1, fun b x hx e1 e2 e3 => ?_⟩
        have hkx : K[b]? = some x := by
          rw [← hK, List.getElem?_set_ne (fun e => e1 e.symm), List.getElem?_set_ne (fun e => e3 e.symm), List.getElem?_set_ne (fun e => e2 e.symm)]; exact hx
        exact g2.get hkx (by simp; exact ⟨e2, e3⟩)
      · rw [g2]
        exact (((Fr.set H ba .dead).mono (Y := B :: ((some ba).toList ++ (some bb).toList)) (by simp)).trans (Fr.set _ bb _) (by simp)).trans (Fr.set _ B _) (by simp)

end Go.Proofs.YtmecikblalignaaDoor.B
