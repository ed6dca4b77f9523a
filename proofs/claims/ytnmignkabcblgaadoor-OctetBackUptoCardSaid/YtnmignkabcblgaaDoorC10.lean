/- Part of a claim: the law OctetWrites: for every row of pieces it answers true. (Printed by gen_writes.py.) -/
import Derived.Test.YtnmignkabcblgaaDoorC9
import Derived.Test.YtnmignkabcblgaaDoorEB
set_option linter.unusedSimpArgs false
set_option linter.unusedVariables false
set_option maxRecDepth 100000
set_option maxHeartbeats 10000000
namespace Go.Proofs.YtnmignkabcblgaaDoor.C
open Go Go.RowKit Go.Proofs.YtnmignkabcblgaaDoor.E Go.Proofs.YtnmignkabcblgaaDoor.B

structure Piece where
  k : Int
  n : Int
  f : Nat
  g : Nat
  s : List UInt8

def Piece.cells (p : Piece) : List AV := [.int .i64 p.k, .int .u64 p.n, .float .f64 p.f, .float .f32 p.g, .str p.s]

theorem byteI_wrap8 (v : Int) : byteI (IntKind.u64.wrap (IntKind.u8.wrap v)) = byteI v := by
  have h1 : IntKind.u64.wrap (IntKind.u8.wrap v) = v % 256 % 18446744073709551616 := rfl
  unfold byteI
  rw [h1]
  congr 2
  omega
theorem leI_emod : ∀ (n : Nat) (v : Int), leI (v % 256 ^ n) n = leI v n
  | 0, _ => rfl
  | n + 1, v => by
    have hp : (0 : Int) < 256 ^ n := Int.pow_pos (by omega)
    have hpow : (256 : Int) ^ (n + 1) = 256 * 256 ^ n := by rw [Int.pow_succ, Int.mul_comm]
    obtain ⟨m, hm⟩ : ∃ m : Int, m = 256 ^ n := ⟨_, rfl⟩
    have e1 : v % (256 * m) = v - 256 * m * (v / (256 * m)) := by rw [Int.emod_def]
    have e2 : v / 256 / m = v / (256 * m) := by rw [Int.ediv_ediv, if_neg (by omega), Int.sub_zero]
    obtain ⟨q, hq⟩ : ∃ q : Int, q = m * (v / (256 * m)) := ⟨_, rfl⟩
    have e3 : v % (256 * m) = v - 256 * q := by rw [e1, hq, Int.mul_assoc]
    have e4 : (v / 256) % m = v / 256 - q := by rw [Int.emod_def, e2, hq]
    rw [hpow, ← hm, leI, leI]
    congr 1
    · unfold byteI
      rw [e3]
      congr 2
      omega
    · rw [Int.fdiv_eq_ediv_of_nonneg _ (show (0 : Int) ≤ 256 by omega), Int.fdiv_eq_ediv_of_nonneg _ (show (0 : Int) ≤ 256 by omega), ← leI_emod n (v / 256), ← hm, e4, e3]
      congr 1
      omega
theorem leI_wrap16 (v : Int) : leI (IntKind.u64.wrap (IntKind.u16.wrap v)) 2 = leI v 2 := by
  have h1 : IntKind.u64.wrap (IntKind.u16.wrap v) = v % 65536 % 18446744073709551616 := rfl
  have h2 : v % 65536 % 18446744073709551616 = v % 256 ^ 2 := by omega
  rw [h1, h2, leI_emod]
theorem leI_wrap32 (v : Int) : leI (IntKind.u64.wrap (IntKind.u32.wrap v)) 4 = leI v 4 := by
  have h1 : IntKind.u64.wrap (IntKind.u32.wrap v) = v % 4294967296 % 18446744073709551616 := rfl
  have h2 : v % 4294967296 % 18446744073709551616 = v % 256 ^ 4 := by omega
  rw [h1, h2, leI_emod]
theorem leI_wrap8 (v : Int) : leI (IntKind.u64.wrap (IntKind.u8.wrap v)) 1 = leI v 1 := by
  simp only [leI, byteI_wrap8]

def Piece.bytes (p : Piece) : List UInt8 :=
  if p.k = 1 then leI p.n 1 else if p.k = 2 then leI p.n 2 else if p.k = 3 then leI p.n 4 else if p.k = 4 then leI p.n 8
  else if p.k = 5 then leI (bits64 p.f) 8 else if p.k = 6 then leI (IntKind.u64.wrap (bits32 p.g)) 4 else if p.k = 7 then textBytes p.s else []

theorem Piece.bytes_length (p : Piece) : p.bytes.length ≤ 8 + p.s.length := by
  unfold Piece.bytes
  have := textBytes_length p.s
  repeat' split
  all_goals first | (simp only [leI_length, List.length_nil]; omega) | omega

def room (ps : List Piece) : Nat := (ps.map fun p => 8 + p.s.length).sum

/-- All that is written. -/
def allBytes (ps : List Piece) : List UInt8 := (ps.map Piece.bytes).flatten

theorem allBytes_length : ∀ ps, (allBytes ps).length ≤ room ps
  | [] => by simp [allBytes, room]
  | p :: ps => by
    have h1 := p.bytes_length
    have h2 := allBytes_length ps
    simp only [allBytes, room, List.map_cons, List.flatten_cons, List.length_append, List.sum_cons] at h2 ⊢
    omega
theorem room_take : ∀ (n : Nat) (ps : List Piece), room (ps.take n) ≤ room ps
  | 0, _ => by simp [room]
  | _ + 1, [] => by simp [room]
  | n + 1, p :: ps => by
    have := room_take n ps
    simp only [room, List.take_succ_cons, List.map_cons, List.sum_cons] at this ⊢
    omega
theorem room_mem : ∀ (ps : List Piece) (p : Piece), p ∈ ps → 8 + p.s.length ≤ room ps
  | q :: ps, p, h => by
    simp only [room, List.map_cons, List.sum_cons]
    rcases List.mem_cons.1 h with rfl | h
    · omega
    · have := room_mem ps p h; simp only [room] at this; omega
theorem room_len : ∀ ps, ps.length ≤ room ps
  | [] => by simp [room]
  | p :: ps => by
    have := room_len ps
    simp only [room, List.map_cons, List.sum_cons, List.length_cons] at this ⊢
    omega
theorem allBytes_snoc {ps : List Piece} {i : Nat} {p : Piece} (h : ps[i]? = some p) : allBytes (ps.take (i + 1)) = allBytes (ps.take i) ++ p.bytes := by
  rw [List.take_add_one, h]
  simp [allBytes]

theorem ne_of_new {H : Heap} {o o' : Option Nat} (h : Rep.New H none o) (h' : ∀ b, o' = some b → b < H.length) : ∀ b, o' = some b → o ≠ some b := by
  intro b hb
  rcases h with rfl | ⟨x, rfl, hx⟩
  · simp
  · have := h' b hb
    intro e; cases e; omega

theorem lawWrites (M : Addr → Option AV) (hM : ∀ a v, tabM a = some v → M a = some v) (v : AV) (ps : List Piece) (hv : OldS M 5 v (ps.map Piece.cells)) (hroom : room ps ≤ 100000000000) : SemF Tryd.prog M 3 [v] [] fun r _ => r = .bool true := by
  refine fw Tryd.func3 (by kernel_rfl) rfl (by kernel_rfl) fun C L T hT hS => ?_
  have hlen : ∀ ts, lenB T (22 :: ts) v = some (.int .i64 ps.length) := fun ts => by
    have := hv.len (ts := ts) hT.ty22 rfl
    rwa [List.length_map] at this
  simp only [gX,gM,gL,gB,List.map_cons,List.map_nil,wantedA,evOp,opv,absC,absC0,isAggT,resA,resultA,binA,eqA,eqGuardA,isConstA,isFlatScalar,shiftOp,strOp,ordB,readN,sliceCells,lenA,storeA,newA,buildA,fillA,buildSliceA,boundsA,bndA,sliceA,ptrOK,fieldAddrA,fieldA,indexA,extractA,convA,isIntT,biA,bytesOf,setAll,List.replicate,List.cons.injEq,exists_eq_left',exists_eq_left,exists_eq_right',eq_self,Option.map_some,Option.map_none,Option.bind_some,Option.bind_none,Option.some.injEq,Prod.mk.injEq,Nat.reduceAdd,Nat.reduceSub,Nat.reduceMul,Nat.reduceLT,Nat.reduceLeDiff,Nat.reduceEqDiff,Int.reduceEq,Int.reduceLT,Int.reduceLE,Int.reduceNe,Int.reduceAdd,beq_self_eq_true,Option.bind_eq_bind,Option.pure_def,bind_pure_comp,Option.map_eq_map,decide_eq_true_eq,ne_eq,not_false_eq_true,not_true_eq_false,Nat.lt_irrefl,Nat.reduceBEq,if_true,if_false,ite_true,ite_false,reduceCtorEq,Bool.false_eq_true,lenB_nil,lenB_slice,lenB_oslice,lenB_str,lenB_agg,indexAddrA_slice,indexAddrA_oslice,indexAddrA_ptr,indexAddrA_optr,loadA_ptr,loadA_optr,lenK,indexK,loadK,Option.toList_some,Option.toList_none,Int.reduceBEq,Int.reduceBNe,Int.reduceMod,Int.reduceDiv,Int.reduceTDiv,Int.reduceTMod,Int.reduceFDiv,Int.reduceSub,Int.reduceNeg,Int.reduceGT,Int.reduceGE,BitVec.reduceOfInt,BitVec.reduceAnd,BitVec.reduceOr,BitVec.reduceXOr,BitVec.reduceToNat,Int.cast_ofNat_Int,Int.reduceToNat,Int.reducePow,Nat.min_eq_left,Int.reduceMul,List.mapM_cons,List.mapM_nil,hT.all,Tryd.f3]
  refine hS.loop (fun m e h => ∃ (i : Nat) (bv : AV) (o ob : Option Nat) (j : List AV), e = v :: .tup [] :: .bool false :: .ptr 0 0 0 :: bv :: .int .i64 i :: j ∧ j.length = 105 ∧ i + m = ps.length ∧ WS h 0 o (allBytes (ps.take i)) ∧ Rep 5 1 h bv ob (cellsB (allBytes (ps.take i))) ∧ ob ≠ some 0 ∧ (∀ b, o = some b → ob ≠ some b)) ps.length ⟨0, .nilslice, none, none, _, rfl, rfl, by omega, ⟨.nilslice, rfl, .nil, by simp⟩, .nil, by simp, by simp⟩ ?_
  rintro m e h ⟨i, bv, o, ob, j, rfl, hj, hi, hw, hb, hb0, hbo⟩ J hJ
  obtain ⟨g, rfl⟩ : ∃ g : Nat → AV, j = [g 0, g 1, g 2, g 3, g 4, g 5, g 6, g 7, g 8, g 9, g 10, g 11, g 12, g 13, g 14, g 15, g 16, g 17, g 18, g 19, g 20, g 21, g 22, g 23, g 24, g 25, g 26, g 27, g 28, g 29, g 30, g 31, g 32, g 33, g 34, g 35, g 36, g 37, g 38, g 39, g 40, g 41, g 42, g 43, g 44, g 45, g 46, g 47, g 48, g 49, g 50, g 51, g 52, g 53, g 54, g 55, g 56, g 57, g 58, g 59, g 60, g 61, g 62, g 63, g 64, g 65, g 66, g 67, g 68, g 69, g 70, g 71, g 72, g 73, g 74, g 75, g 76, g 77, g 78, g 79, g 80, g 81, g 82, g 83, g 84, g 85, g 86, g 87, g 88, g 89, g 90, g 91, g 92, g 93, g 94, g 95, g 96, g 97, g 98, g 99, g 100, g 101, g 102, g 103, g 104] := junk 105 j hj
  have hlr := room_len ps
  by_cases hlt : i < ps.length
  rotate_left
  · have g1 : ¬ (i : Int) < ps.length := by omega
    simp only [gX,gM,gL,gB,List.map_cons,List.map_nil,wantedA,evOp,opv,absC,absC0,isAggT,resA,resultA,binA,eqA,eqGuardA,isConstA,isFlatScalar,shiftOp,strOp,ordB,readN,sliceCells,lenA,storeA,newA,buildA,fillA,buildSliceA,boundsA,bndA,sliceA,ptrOK,fieldAddrA,fieldA,indexA,extractA,convA,isIntT,biA,bytesOf,setAll,List.replicate,List.cons.injEq,exists_eq_left',exists_eq_left,exists_eq_right',eq_self,Option.map_some,Option.map_none,Option.bind_some,Option.bind_none,Option.some.injEq,Prod.mk.injEq,Nat.reduceAdd,Nat.reduceSub,Nat.reduceMul,Nat.reduceLT,Nat.reduceLeDiff,Nat.reduceEqDiff,Int.reduceEq,Int.reduceLT,Int.reduceLE,Int.reduceNe,Int.reduceAdd,beq_self_eq_true,Option.bind_eq_bind,Option.pure_def,bind_pure_comp,Option.map_eq_map,decide_eq_true_eq,ne_eq,not_false_eq_true,not_true_eq_false,Nat.lt_irrefl,Nat.reduceBEq,if_true,if_false,ite_true,ite_false,reduceCtorEq,Bool.false_eq_true,lenB_nil,lenB_slice,lenB_oslice,lenB_str,lenB_agg,indexAddrA_slice,indexAddrA_oslice,indexAddrA_ptr,indexAddrA_optr,loadA_ptr,loadA_optr,lenK,indexK,loadK,Option.toList_some,Option.toList_none,Int.reduceBEq,Int.reduceBNe,Int.reduceMod,Int.reduceDiv,Int.reduceTDiv,Int.reduceTMod,Int.reduceFDiv,Int.reduceSub,Int.reduceNeg,Int.reduceGT,Int.reduceGE,BitVec.reduceOfInt,BitVec.reduceAnd,BitVec.reduceOr,BitVec.reduceXOr,BitVec.reduceToNat,Int.cast_ofNat_Int,Int.reduceToNat,Int.reducePow,Nat.min_eq_left,Int.reduceMul,List.mapM_cons,List.mapM_nil,hT.all,hlen,g1]
    refine hS.one (heads M hM _) ?_
    simp only [gX,gM,gL,gB,List.map_cons,List.map_nil,wantedA,evOp,opv,absC,absC0,isAggT,resA,resultA,binA,eqA,eqGuardA,isConstA,isFlatScalar,shiftOp,strOp,ordB,readN,sliceCells,lenA,storeA,newA,buildA,fillA,buildSliceA,boundsA,bndA,sliceA,ptrOK,fieldAddrA,fieldA,indexA,extractA,convA,isIntT,biA,bytesOf,setAll,List.replicate,List.cons.injEq,exists_eq_left',exists_eq_left,exists_eq_right',eq_self,Option.map_some,Option.map_none,Option.bind_some,Option.bind_none,Option.some.injEq,Prod.mk.injEq,Nat.reduceAdd,Nat.reduceSub,Nat.reduceMul,Nat.reduceLT,Nat.reduceLeDiff,Nat.reduceEqDiff,Int.reduceEq,Int.reduceLT,Int.reduceLE,Int.reduceNe,Int.reduceAdd,beq_self_eq_true,Option.bind_eq_bind,Option.pure_def,bind_pure_comp,Option.map_eq_map,decide_eq_true_eq,ne_eq,not_false_eq_true,not_true_eq_false,Nat.lt_irrefl,Nat.reduceBEq,if_true,if_false,ite_true,ite_false,reduceCtorEq,Bool.false_eq_true,lenB_nil,lenB_slice,lenB_oslice,lenB_str,lenB_agg,indexAddrA_slice,indexAddrA_oslice,indexAddrA_ptr,indexAddrA_optr,loadA_ptr,loadA_optr,lenK,indexK,loadK,Option.toList_some,Option.toList_none,Int.reduceBEq,Int.reduceBNe,Int.reduceMod,Int.reduceDiv,Int.reduceTDiv,Int.reduceTMod,Int.reduceFDiv,Int.reduceSub,Int.reduceNeg,Int.reduceGT,Int.reduceGE,BitVec.reduceOfInt,BitVec.reduceAnd,BitVec.reduceOr,BitVec.reduceXOr,BitVec.reduceToNat,Int.cast_ofNat_Int,Int.reduceToNat,Int.reducePow,Nat.min_eq_left,Int.reduceMul,List.mapM_cons,List.mapM_nil,hT.all]
  have g1 : (i : Int) < ps.length := by omega
  obtain ⟨⟨pk, pn, pf, pg, pt⟩, hp⟩ : ∃ p, ps[i]? = some p := ⟨ps[i], List.getElem?_eq_getElem hlt⟩
  have hsn := allBytes_snoc hp
  have hpc : (ps.map Piece.cells)[i]? = some (Piece.cells ⟨pk, pn, pf, pg, pt⟩) := by rw [List.getElem?_map, hp]; rfl
  have hix : ∀ H, indexAddrA T H 22 v (.int .i64 (i : Int)) = some (placeA v i 5) := fun H => by
    have := hv.index (T := T) (H := H) (k := .i64) (n := (i : Int)) (by omega) (by simp; omega) hT.ty22 rfl hT.ty32 rfl
    simpa using this
  have hld : ∀ H, loadA T M H 32 (placeA v i 5) = some (.agg [.int .i64 pk, .int .u64 pn, .float .f64 pf, .float .f32 pg, .str pt]) := fun H => hv.load hpc hT.ty32 rfl rfl
  have hps : pt.length < 1000000000000000000 := by
    have : 8 + pt.length ≤ room ps := room_mem ps ⟨pk, pn, pf, pg, pt⟩ (List.mem_of_getElem? hp)
    omega
  have hbl : (allBytes (ps.take i)).length ≤ 100000000000 := by
    have h1 := allBytes_length (ps.take i)
    have h2 := room_take i ps
    omega
  have hpl : (Piece.bytes ⟨pk, pn, pf, pg, pt⟩).length ≤ 8 + pt.length := Piece.bytes_length _
  have hps2 : pt.length ≤ 100000000000 := by
    have : 8 + pt.length ≤ room ps := room_mem ps ⟨pk, pn, pf, pg, pt⟩ (List.mem_of_getElem? hp)
    omega
  have hwi : IntKind.i64.wrap ((i : Int) + 1) = ((i + 1 : Nat) : Int) := by rw [wrap_i64 (by omega) (by omega)]; omega
  -- the heap in which the piece lies
  obtain ⟨hh, hhd⟩ : ∃ hh, hh = h ++ [.c [.int .i64 pk, .int .u64 pn, .float .f64 pf, .float .f32 pg, .str pt] 32 0 0] := ⟨_, rfl⟩
  have hfr : Fr [] h hh := hhd ▸ Fr.app _ _
  have hpb : hh[h.length]? = some (.c [.int .i64 pk, .int .u64 pn, .float .f64 pf, .float .f32 pg, .str pt] 32 0 0) := by rw [hhd]; exact hp_get0
  obtain ⟨w0, hw01, hw02, hw03⟩ := hw
  have hwh : WS hh 0 o (allBytes (ps.take i)) := ⟨w0, hfr.get hw01 (by simp), hw02.mono hfr (by simp), hw03⟩
  have hbh := hb.mono hfr (by simp)
  have hne0 : h.length ≠ 0 := by have := lt_of_get hw01; omega
  have hob : ∀ b, ob = some b → b < h.length := fun b e => hb.lt e
  have hol : ∀ b, o = some b → b < h.length := fun b e => hw02.lt e
  obtain ⟨m0, hm0⟩ : ∃ m0, m = m0 + 1 := ⟨m - 1, by omega⟩
  by_cases hk1 : pk = 1
  · subst hk1
    have hpy : Piece.bytes ⟨1, pn, pf, pg, pt⟩ = leI pn 1 := by unfold Piece.bytes; simp
    simp only [gX,gM,gL,gB,List.map_cons,List.map_nil,wantedA,evOp,opv,absC,absC0,isAggT,resA,resultA,binA,eqA,eqGuardA,isConstA,isFlatScalar,shiftOp,strOp,ordB,readN,sliceCells,lenA,storeA,newA,buildA,fillA,buildSliceA,boundsA,bndA,sliceA,ptrOK,fieldAddrA,fieldA,indexA,extractA,convA,isIntT,biA,bytesOf,setAll,List.replicate,List.cons.injEq,exists_eq_left',exists_eq_left,exists_eq_right',eq_self,Option.map_some,Option.map_none,Option.bind_some,Option.bind_none,Option.some.injEq,Prod.mk.injEq,Nat.reduceAdd,Nat.reduceSub,Nat.reduceMul,Nat.reduceLT,Nat.reduceLeDiff,Nat.reduceEqDiff,Int.reduceEq,Int.reduceLT,Int.reduceLE,Int.reduceNe,Int.reduceAdd,beq_self_eq_true,Option.bind_eq_bind,Option.pure_def,bind_pure_comp,Option.map_eq_map,decide_eq_true_eq,ne_eq,not_false_eq_true,not_true_eq_false,Nat.lt_irrefl,Nat.reduceBEq,if_true,if_false,ite_true,ite_false,reduceCtorEq,Bool.false_eq_true,lenB_nil,lenB_slice,lenB_oslice,lenB_str,lenB_agg,indexAddrA_slice,indexAddrA_oslice,indexAddrA_ptr,indexAddrA_optr,loadA_ptr,loadA_optr,lenK,indexK,loadK,Option.toList_some,Option.toList_none,Int.reduceBEq,Int.reduceBNe,Int.reduceMod,Int.reduceDiv,Int.reduceTDiv,Int.reduceTMod,Int.reduceFDiv,Int.reduceSub,Int.reduceNeg,Int.reduceGT,Int.reduceGE,BitVec.reduceOfInt,BitVec.reduceAnd,BitVec.reduceOr,BitVec.reduceXOr,BitVec.reduceToNat,Int.cast_ofNat_Int,Int.reduceToNat,Int.reducePow,Nat.min_eq_left,Int.reduceMul,List.mapM_cons,List.mapM_nil,hT.all,hlen,g1,hix,hld,← hhd,hpb]
    refine hS.call (wU8 M hwh _ (by omega)) fun v1 h1 hq => ?_
    obtain ⟨rfl, o1, hg⟩ := hq
    rw [leI_wrap8] at hg
    have hpb1 := hg.fr.get hpb (by
      intro hc
      rcases List.mem_cons.1 hc with e | e
      · exact hne0 e
      · rw [Option.mem_toList] at e
        have := hol _ e; omega)
    simp only [gX,gM,gL,gB,List.map_cons,List.map_nil,wantedA,evOp,opv,absC,absC0,isAggT,resA,resultA,binA,eqA,eqGuardA,isConstA,isFlatScalar,shiftOp,strOp,ordB,readN,sliceCells,lenA,storeA,newA,buildA,fillA,buildSliceA,boundsA,bndA,sliceA,ptrOK,fieldAddrA,fieldA,indexA,extractA,convA,isIntT,biA,bytesOf,setAll,List.replicate,List.cons.injEq,exists_eq_left',exists_eq_left,exists_eq_right',eq_self,Option.map_some,Option.map_none,Option.bind_some,Option.bind_none,Option.some.injEq,Prod.mk.injEq,Nat.reduceAdd,Nat.reduceSub,Nat.reduceMul,Nat.reduceLT,Nat.reduceLeDiff,Nat.reduceEqDiff,Int.reduceEq,Int.reduceLT,Int.reduceLE,Int.reduceNe,Int.reduceAdd,beq_self_eq_true,Option.bind_eq_bind,Option.pure_def,bind_pure_comp,Option.map_eq_map,decide_eq_true_eq,ne_eq,not_false_eq_true,not_true_eq_false,Nat.lt_irrefl,Nat.reduceBEq,if_true,if_false,ite_true,ite_false,reduceCtorEq,Bool.false_eq_true,lenB_nil,lenB_slice,lenB_oslice,lenB_str,lenB_agg,indexAddrA_slice,indexAddrA_oslice,indexAddrA_ptr,indexAddrA_optr,loadA_ptr,loadA_optr,lenK,indexK,loadK,Option.toList_some,Option.toList_none,Int.reduceBEq,Int.reduceBNe,Int.reduceMod,Int.reduceDiv,Int.reduceTDiv,Int.reduceTMod,Int.reduceFDiv,Int.reduceSub,Int.reduceNeg,Int.reduceGT,Int.reduceGE,BitVec.reduceOfInt,BitVec.reduceAnd,BitVec.reduceOr,BitVec.reduceXOr,BitVec.reduceToNat,Int.cast_ofNat_Int,Int.reduceToNat,Int.reducePow,Nat.min_eq_left,Int.reduceMul,List.mapM_cons,List.mapM_nil,hT.all,hpb1]
    refine hS.call (rNum M h1 pn 1 (by omega)) fun tv h2 hq => ?_
    obtain ⟨ot, hm⟩ := hq
    rw [numI_eq] at hm
    have hbs : allBytes (ps.take (i + 1)) = allBytes (ps.take i) ++ leI pn 1 := by rw [hsn, hpy]
    have hb1 : Rep 5 1 h1 bv ob (cellsB (allBytes (ps.take i))) := hbh.mono hg.fr (fun b e hm => by
      rcases List.mem_cons.1 hm with rfl | hm
      · exact hb0 e
      · rw [Option.mem_toList] at hm
        exact hbo b hm e)
    have hb2 := hb1.mono hm.fr (by simp)
    have hlo := congrArg List.length hpy
    obtain ⟨bv', ob', h3, ha, hr, hf, hn⟩ := appB hT (M := M) hb2 (t2 := 24) (x := tv) (new := leI pn 1) hT.ty24 rfl (hm.rep.sees (M := M) |>.len (n := (leI pn 1).length) (by simp) (by omega)) (hm.rep.sees.cells_eq) (by omega)
    have hob1 : ∀ b, ob = some b → b < h1.length := fun b e => Nat.lt_of_lt_of_le (hob b e) (Nat.le_trans hfr.len hg.fr.len)
    -- the writer behind it all
    have hw3 : WS h3 0 o1 (allBytes (ps.take i) ++ leI pn 1) := by
      obtain ⟨y, hy1, hy2, hy3⟩ := hg.ws
      have hz : (0 : Nat) ∉ ob.toList := by rw [Option.mem_toList]; exact fun e => hb0 e
      refine ⟨y, hf.get (hm.fr.get hy1 (by simp)) hz, (hy2.mono hm.fr (by simp)).mono hf (fun b e hm' => ?_), hy3⟩
      rw [Option.mem_toList] at hm'
      rcases hg.new with e1 | ⟨x, e1, hx⟩
      · rw [e1] at e; exact hbo b e hm'
      · rw [e1] at e; cases e
        have := hob _ hm'
        have := hfr.len
        omega
    have hb0' : ob' ≠ some 0 := hn.ne (b := 0) (by have := lt_of_get hw01; have := hfr.len; have := hg.fr.len; have := hm.fr.len; omega) hb0
    have hbo' : ∀ b, o1 = some b → ob' ≠ some b := fun b e => by
      have hlt2 : b < h2.length := by
        obtain ⟨y, hy1, hy2, hy3⟩ := hg.ws
        exact Nat.lt_of_lt_of_le (hy2.lt e) hm.fr.len
      refine hn.ne hlt2 ?_
      rcases hg.new with e1 | ⟨x, e1, hx⟩
      · rw [e1] at e; exact hbo b e
      · rw [e1] at e; cases e
        intro hc
        have := hob _ hc
        have := hfr.len
        omega
    obtain ⟨w3, hw31, hw32, hw33⟩ := hw3
    simp only [gX,gM,gL,gB,List.map_cons,List.map_nil,wantedA,evOp,opv,absC,absC0,isAggT,resA,resultA,binA,eqA,eqGuardA,isConstA,isFlatScalar,shiftOp,strOp,ordB,readN,sliceCells,lenA,storeA,newA,buildA,fillA,buildSliceA,boundsA,bndA,sliceA,ptrOK,fieldAddrA,fieldA,indexA,extractA,convA,isIntT,biA,bytesOf,setAll,List.replicate,List.cons.injEq,exists_eq_left',exists_eq_left,exists_eq_right',eq_self,Option.map_some,Option.map_none,Option.bind_some,Option.bind_none,Option.some.injEq,Prod.mk.injEq,Nat.reduceAdd,Nat.reduceSub,Nat.reduceMul,Nat.reduceLT,Nat.reduceLeDiff,Nat.reduceEqDiff,Int.reduceEq,Int.reduceLT,Int.reduceLE,Int.reduceNe,Int.reduceAdd,beq_self_eq_true,Option.bind_eq_bind,Option.pure_def,bind_pure_comp,Option.map_eq_map,decide_eq_true_eq,ne_eq,not_false_eq_true,not_true_eq_false,Nat.lt_irrefl,Nat.reduceBEq,if_true,if_false,ite_true,ite_false,reduceCtorEq,Bool.false_eq_true,lenB_nil,lenB_slice,lenB_oslice,lenB_str,lenB_agg,indexAddrA_slice,indexAddrA_oslice,indexAddrA_ptr,indexAddrA_optr,loadA_ptr,loadA_optr,lenK,indexK,loadK,Option.toList_some,Option.toList_none,Int.reduceBEq,Int.reduceBNe,Int.reduceMod,Int.reduceDiv,Int.reduceTDiv,Int.reduceTMod,Int.reduceFDiv,Int.reduceSub,Int.reduceNeg,Int.reduceGT,Int.reduceGE,BitVec.reduceOfInt,BitVec.reduceAnd,BitVec.reduceOr,BitVec.reduceXOr,BitVec.reduceToNat,Int.cast_ofNat_Int,Int.reduceToNat,Int.reducePow,Nat.min_eq_left,Int.reduceMul,List.mapM_cons,List.mapM_nil,hT.all,ha,hwi,bne_self_eq_false,hw31]
    refine hS.one (rAlike M (hw32.sees) (hr.sees)) ?_
    simp only [gX,gM,gL,gB,List.map_cons,List.map_nil,wantedA,evOp,opv,absC,absC0,isAggT,resA,resultA,binA,eqA,eqGuardA,isConstA,isFlatScalar,shiftOp,strOp,ordB,readN,sliceCells,lenA,storeA,newA,buildA,fillA,buildSliceA,boundsA,bndA,sliceA,ptrOK,fieldAddrA,fieldA,indexA,extractA,convA,isIntT,biA,bytesOf,setAll,List.replicate,List.cons.injEq,exists_eq_left',exists_eq_left,exists_eq_right',eq_self,Option.map_some,Option.map_none,Option.bind_some,Option.bind_none,Option.some.injEq,Prod.mk.injEq,Nat.reduceAdd,Nat.reduceSub,Nat.reduceMul,Nat.reduceLT,Nat.reduceLeDiff,Nat.reduceEqDiff,Int.reduceEq,Int.reduceLT,Int.reduceLE,Int.reduceNe,Int.reduceAdd,beq_self_eq_true,Option.bind_eq_bind,Option.pure_def,bind_pure_comp,Option.map_eq_map,decide_eq_true_eq,ne_eq,not_false_eq_true,not_true_eq_false,Nat.lt_irrefl,Nat.reduceBEq,if_true,if_false,ite_true,ite_false,reduceCtorEq,Bool.false_eq_true,lenB_nil,lenB_slice,lenB_oslice,lenB_str,lenB_agg,indexAddrA_slice,indexAddrA_oslice,indexAddrA_ptr,indexAddrA_optr,loadA_ptr,loadA_optr,lenK,indexK,loadK,Option.toList_some,Option.toList_none,Int.reduceBEq,Int.reduceBNe,Int.reduceMod,Int.reduceDiv,Int.reduceTDiv,Int.reduceTMod,Int.reduceFDiv,Int.reduceSub,Int.reduceNeg,Int.reduceGT,Int.reduceGE,BitVec.reduceOfInt,BitVec.reduceAnd,BitVec.reduceOr,BitVec.reduceXOr,BitVec.reduceToNat,Int.cast_ofNat_Int,Int.reduceToNat,Int.reducePow,Nat.min_eq_left,Int.reduceMul,List.mapM_cons,List.mapM_nil,hT.all,hwi,bne_self_eq_false]
    refine hJ m0 _ _ _ (by omega) (Weak.refl _) ⟨i + 1, bv', o1, ob', _, rfl, rfl, by omega, ?_, ?_, hb0', hbo'⟩
    · rw [hbs]; exact ⟨w3, hw31, hw32, hw33⟩
    · rw [hbs]; exact hr
  by_cases hk2 : pk = 2
  · subst hk2
    have hpy : Piece.bytes ⟨2, pn, pf, pg, pt⟩ = leI pn 2 := by unfold Piece.bytes; simp
    simp only [gX,gM,gL,gB,List.map_cons,List.map_nil,wantedA,evOp,opv,absC,absC0,isAggT,resA,resultA,binA,eqA,eqGuardA,isConstA,isFlatScalar,shiftOp,strOp,ordB,readN,sliceCells,lenA,storeA,newA,buildA,fillA,buildSliceA,boundsA,bndA,sliceA,ptrOK,fieldAddrA,fieldA,indexA,extractA,convA,isIntT,biA,bytesOf,setAll,List.replicate,List.cons.injEq,exists_eq_left',exists_eq_left,exists_eq_right',eq_self,Option.map_some,Option.map_none,Option.bind_some,Option.bind_none,Option.some.injEq,Prod.mk.injEq,Nat.reduceAdd,Nat.reduceSub,Nat.reduceMul,Nat.reduceLT,Nat.reduceLeDiff,Nat.reduceEqDiff,Int.reduceEq,Int.reduceLT,Int.reduceLE,Int.reduceNe,Int.reduceAdd,beq_self_eq_true,Option.bind_eq_bind,Option.pure_def,bind_pure_comp,Option.map_eq_map,decide_eq_true_eq,ne_eq,not_false_eq_true,not_true_eq_false,Nat.lt_irrefl,Nat.reduceBEq,if_true,if_false,ite_true,ite_false,reduceCtorEq,Bool.false_eq_true,lenB_nil,lenB_slice,lenB_oslice,lenB_str,lenB_agg,indexAddrA_slice,indexAddrA_oslice,indexAddrA_ptr,indexAddrA_optr,loadA_ptr,loadA_optr,lenK,indexK,loadK,Option.toList_some,Option.toList_none,Int.reduceBEq,Int.reduceBNe,Int.reduceMod,Int.reduceDiv,Int.reduceTDiv,Int.reduceTMod,Int.reduceFDiv,Int.reduceSub,Int.reduceNeg,Int.reduceGT,Int.reduceGE,BitVec.reduceOfInt,BitVec.reduceAnd,BitVec.reduceOr,BitVec.reduceXOr,BitVec.reduceToNat,Int.cast_ofNat_Int,Int.reduceToNat,Int.reducePow,Nat.min_eq_left,Int.reduceMul,List.mapM_cons,List.mapM_nil,hT.all,hlen,g1,hix,hld,← hhd,hpb]
    refine hS.call (wU16 M hwh _ (by omega)) fun v1 h1 hq => ?_
    obtain ⟨rfl, o1, hg⟩ := hq
    rw [leI_wrap16] at hg
    have hpb1 := hg.fr.get hpb (by
      intro hc
      rcases List.mem_cons.1 hc with e | e
      · exact hne0 e
      · rw [Option.mem_toList] at e
        have := hol _ e; omega)
    simp only [gX,gM,gL,gB,List.map_cons,List.map_nil,wantedA,evOp,opv,absC,absC0,isAggT,resA,resultA,binA,eqA,eqGuardA,isConstA,isFlatScalar,shiftOp,strOp,ordB,readN,sliceCells,lenA,storeA,newA,buildA,fillA,buildSliceA,boundsA,bndA,sliceA,ptrOK,fieldAddrA,fieldA,indexA,extractA,convA,isIntT,biA,bytesOf,setAll,List.replicate,List.cons.injEq,exists_eq_left',exists_eq_left,exists_eq_right',eq_self,Option.map_some,Option.map_none,Option.bind_some,Option.bind_none,Option.some.injEq,Prod.mk.injEq,Nat.reduceAdd,Nat.reduceSub,Nat.reduceMul,Nat.reduceLT,Nat.reduceLeDiff,Nat.reduceEqDiff,Int.reduceEq,Int.reduceLT,Int.reduceLE,Int.reduceNe,Int.reduceAdd,beq_self_eq_true,Option.bind_eq_bind,Option.pure_def,bind_pure_comp,Option.map_eq_map,decide_eq_true_eq,ne_eq,not_false_eq_true,not_true_eq_false,Nat.lt_irrefl,Nat.reduceBEq,if_true,if_false,ite_true,ite_false,reduceCtorEq,Bool.false_eq_true,lenB_nil,lenB_slice,lenB_oslice,lenB_str,lenB_agg,indexAddrA_slice,indexAddrA_oslice,indexAddrA_ptr,indexAddrA_optr,loadA_ptr,loadA_optr,lenK,indexK,loadK,Option.toList_some,Option.toList_none,Int.reduceBEq,Int.reduceBNe,Int.reduceMod,Int.reduceDiv,Int.reduceTDiv,Int.reduceTMod,Int.reduceFDiv,Int.reduceSub,Int.reduceNeg,Int.reduceGT,Int.reduceGE,BitVec.reduceOfInt,BitVec.reduceAnd,BitVec.reduceOr,BitVec.reduceXOr,BitVec.reduceToNat,Int.cast_ofNat_Int,Int.reduceToNat,Int.reducePow,Nat.min_eq_left,Int.reduceMul,List.mapM_cons,List.mapM_nil,hT.all,hpb1]
    refine hS.call (rNum M h1 pn 2 (by omega)) fun tv h2 hq => ?_
    obtain ⟨ot, hm⟩ := hq
    rw [numI_eq] at hm
    have hbs : allBytes (ps.take (i + 1)) = allBytes (ps.take i) ++ leI pn 2 := by rw [hsn, hpy]
    have hb1 : Rep 5 1 h1 bv ob (cellsB (allBytes (ps.take i))) := hbh.mono hg.fr (fun b e hm => by
      rcases List.mem_cons.1 hm with rfl | hm
      · exact hb0 e
      · rw [Option.mem_toList] at hm
        exact hbo b hm e)
    have hb2 := hb1.mono hm.fr (by simp)
    have hlo := congrArg List.length hpy
    obtain ⟨bv', ob', h3, ha, hr, hf, hn⟩ := appB hT (M := M) hb2 (t2 := 24) (x := tv) (new := leI pn 2) hT.ty24 rfl (hm.rep.sees (M := M) |>.len (n := (leI pn 2).length) (by simp) (by omega)) (hm.rep.sees.cells_eq) (by omega)
    have hob1 : ∀ b, ob = some b → b < h1.length := fun b e => Nat.lt_of_lt_of_le (hob b e) (Nat.le_trans hfr.len hg.fr.len)
    -- the writer behind it all
    have hw3 : WS h3 0 o1 (allBytes (ps.take i) ++ leI pn 2) := by
      obtain ⟨y, hy1, hy2, hy3⟩ := hg.ws
      have hz : (0 : Nat) ∉ ob.toList := by rw [Option.mem_toList]; exact fun e => hb0 e
      refine ⟨y, hf.get (hm.fr.get hy1 (by simp)) hz, (hy2.mono hm.fr (by simp)).mono hf (fun b e hm' => ?_), hy3⟩
      rw [Option.mem_toList] at hm'
      rcases hg.new with e1 | ⟨x, e1, hx⟩
      · rw [e1] at e; exact hbo b e hm'
      · rw [e1] at e; cases e
        have := hob _ hm'
        have := hfr.len
        omega
    have hb0' : ob' ≠ some 0 := hn.ne (b := 0) (by have := lt_of_get hw01; have := hfr.len; have := hg.fr.len; have := hm.fr.len; omega) hb0
    have hbo' : ∀ b, o1 = some b → ob' ≠ some b := fun b e => by
      have hlt2 : b < h2.length := by
        obtain ⟨y, hy1, hy2, hy3⟩ := hg.ws
        exact Nat.lt_of_lt_of_le (hy2.lt e) hm.fr.len
      refine hn.ne hlt2 ?_
      rcases hg.new with e1 | ⟨x, e1, hx⟩
      · rw [e1] at e; exact hbo b e
      · rw [e1] at e; cases e
        intro hc
        have := hob _ hc
        have := hfr.len
        omega
    obtain ⟨w3, hw31, hw32, hw33⟩ := hw3
    simp only [gX,gM,gL,gB,List.map_cons,List.map_nil,wantedA,evOp,opv,absC,absC0,isAggT,resA,resultA,binA,eqA,eqGuardA,isConstA,isFlatScalar,shiftOp,strOp,ordB,readN,sliceCells,lenA,storeA,newA,buildA,fillA,buildSliceA,boundsA,bndA,sliceA,ptrOK,fieldAddrA,fieldA,indexA,extractA,convA,isIntT,biA,bytesOf,setAll,List.replicate,List.cons.injEq,exists_eq_left',exists_eq_left,exists_eq_right',eq_self,Option.map_some,Option.map_none,Option.bind_some,Option.bind_none,Option.some.injEq,Prod.mk.injEq,Nat.reduceAdd,Nat.reduceSub,Nat.reduceMul,Nat.reduceLT,Nat.reduceLeDiff,Nat.reduceEqDiff,Int.reduceEq,Int.reduceLT,Int.reduceLE,Int.reduceNe,Int.reduceAdd,beq_self_eq_true,Option.bind_eq_bind,Option.pure_def,bind_pure_comp,Option.map_eq_map,decide_eq_true_eq,ne_eq,not_false_eq_true,not_true_eq_false,Nat.lt_irrefl,Nat.reduceBEq,if_true,if_false,ite_true,ite_false,reduceCtorEq,Bool.false_eq_true,lenB_nil,lenB_slice,lenB_oslice,lenB_str,lenB_agg,indexAddrA_slice,indexAddrA_oslice,indexAddrA_ptr,indexAddrA_optr,loadA_ptr,loadA_optr,lenK,indexK,loadK,Option.toList_some,Option.toList_none,Int.reduceBEq,Int.reduceBNe,Int.reduceMod,Int.reduceDiv,Int.reduceTDiv,Int.reduceTMod,Int.reduceFDiv,Int.reduceSub,Int.reduceNeg,Int.reduceGT,Int.reduceGE,BitVec.reduceOfInt,BitVec.reduceAnd,BitVec.reduceOr,BitVec.reduceXOr,BitVec.reduceToNat,Int.cast_ofNat_Int,Int.reduceToNat,Int.reducePow,Nat.min_eq_left,Int.reduceMul,List.mapM_cons,List.mapM_nil,hT.all,ha,hwi,bne_self_eq_false,hw31]
    refine hS.one (rAlike M (hw32.sees) (hr.sees)) ?_
    simp only [gX,gM,gL,gB,List.map_cons,List.map_nil,wantedA,evOp,opv,absC,absC0,isAggT,resA,resultA,binA,eqA,eqGuardA,isConstA,isFlatScalar,shiftOp,strOp,ordB,readN,sliceCells,lenA,storeA,newA,buildA,fillA,buildSliceA,boundsA,bndA,sliceA,ptrOK,fieldAddrA,fieldA,indexA,extractA,convA,isIntT,biA,bytesOf,setAll,List.replicate,List.cons.injEq,exists_eq_left',exists_eq_left,exists_eq_right',eq_self,Option.map_some,Option.map_none,Option.bind_some,Option.bind_none,Option.some.injEq,Prod.mk.injEq,Nat.reduceAdd,Nat.reduceSub,Nat.reduceMul,Nat.reduceLT,Nat.reduceLeDiff,Nat.reduceEqDiff,Int.reduceEq,Int.reduceLT,Int.reduceLE,Int.reduceNe,Int.reduceAdd,beq_self_eq_true,Option.bind_eq_bind,Option.pure_def,bind_pure_comp,Option.map_eq_map,decide_eq_true_eq,ne_eq,not_false_eq_true,not_true_eq_false,Nat.lt_irrefl,Nat.reduceBEq,if_true,if_false,ite_true,ite_false,reduceCtorEq,Bool.false_eq_true,lenB_nil,lenB_slice,lenB_oslice,lenB_str,lenB_agg,indexAddrA_slice,indexAddrA_oslice,indexAddrA_ptr,indexAddrA_optr,loadA_ptr,loadA_optr,lenK,indexK,loadK,Option.toList_some,Option.toList_none,Int.reduceBEq,Int.reduceBNe,Int.reduceMod,Int.reduceDiv,Int.reduceTDiv,Int.reduceTMod,Int.reduceFDiv,Int.reduceSub,Int.reduceNeg,Int.reduceGT,Int.reduceGE,BitVec.reduceOfInt,BitVec.reduceAnd,BitVec.reduceOr,BitVec.reduceXOr,BitVec.reduceToNat,Int.cast_ofNat_Int,Int.reduceToNat,Int.reducePow,Nat.min_eq_left,Int.reduceMul,List.mapM_cons,List.mapM_nil,hT.all,hwi,bne_self_eq_false]
    refine hJ m0 _ _ _ (by omega) (Weak.refl _) ⟨i + 1, bv', o1, ob', _, rfl, rfl, by omega, ?_, ?_, hb0', hbo'⟩
    · rw [hbs]; exact ⟨w3, hw31, hw32, hw33⟩
    · rw [hbs]; exact hr
  by_cases hk3 : pk = 3
  · subst hk3
    have hpy : Piece.bytes ⟨3, pn, pf, pg, pt⟩ = leI pn 4 := by unfold Piece.bytes; simp
    simp only [gX,gM,gL,gB,List.map_cons,List.map_nil,wantedA,evOp,opv,absC,absC0,isAggT,resA,resultA,binA,eqA,eqGuardA,isConstA,isFlatScalar,shiftOp,strOp,ordB,readN,sliceCells,lenA,storeA,newA,buildA,fillA,buildSliceA,boundsA,bndA,sliceA,ptrOK,fieldAddrA,fieldA,indexA,extractA,convA,isIntT,biA,bytesOf,setAll,List.replicate,List.cons.injEq,exists_eq_left',exists_eq_left,exists_eq_right',eq_self,Option.map_some,Option.map_none,Option.bind_some,Option.bind_none,Option.some.injEq,Prod.mk.injEq,Nat.reduceAdd,Nat.reduceSub,Nat.reduceMul,Nat.reduceLT,Nat.reduceLeDiff,Nat.reduceEqDiff,Int.reduceEq,Int.reduceLT,Int.reduceLE,Int.reduceNe,Int.reduceAdd,beq_self_eq_true,Option.bind_eq_bind,Option.pure_def,bind_pure_comp,Option.map_eq_map,decide_eq_true_eq,ne_eq,not_false_eq_true,not_true_eq_false,Nat.lt_irrefl,Nat.reduceBEq,if_true,if_false,ite_true,ite_false,reduceCtorEq,Bool.false_eq_true,lenB_nil,lenB_slice,lenB_oslice,lenB_str,lenB_agg,indexAddrA_slice,indexAddrA_oslice,indexAddrA_ptr,indexAddrA_optr,loadA_ptr,loadA_optr,lenK,indexK,loadK,Option.toList_some,Option.toList_none,Int.reduceBEq,Int.reduceBNe,Int.reduceMod,Int.reduceDiv,Int.reduceTDiv,Int.reduceTMod,Int.reduceFDiv,Int.reduceSub,Int.reduceNeg,Int.reduceGT,Int.reduceGE,BitVec.reduceOfInt,BitVec.reduceAnd,BitVec.reduceOr,BitVec.reduceXOr,BitVec.reduceToNat,Int.cast_ofNat_Int,Int.reduceToNat,Int.reducePow,Nat.min_eq_left,Int.reduceMul,List.mapM_cons,List.mapM_nil,hT.all,hlen,g1,hix,hld,← hhd,hpb]
    refine hS.call (wU32 M hwh _ (by omega)) fun v1 h1 hq => ?_
    obtain ⟨rfl, o1, hg⟩ := hq
    rw [leI_wrap32] at hg
    have hpb1 := hg.fr.get hpb (by
      intro hc
      rcases List.mem_cons.1 hc with e | e
      · exact hne0 e
      · rw [Option.mem_toList] at e
        have := hol _ e; omega)
    simp only [gX,gM,gL,gB,List.map_cons,List.map_nil,wantedA,evOp,opv,absC,absC0,isAggT,resA,resultA,binA,eqA,eqGuardA,isConstA,isFlatScalar,shiftOp,strOp,ordB,readN,sliceCells,lenA,storeA,newA,buildA,fillA,buildSliceA,boundsA,bndA,sliceA,ptrOK,fieldAddrA,fieldA,indexA,extractA,convA,isIntT,biA,bytesOf,setAll,List.replicate,List.cons.injEq,exists_eq_left',exists_eq_left,exists_eq_right',eq_self,Option.map_some,Option.map_none,Option.bind_some,Option.bind_none,Option.some.injEq,Prod.mk.injEq,Nat.reduceAdd,Nat.reduceSub,Nat.reduceMul,Nat.reduceLT,Nat.reduceLeDiff,Nat.reduceEqDiff,Int.reduceEq,Int.reduceLT,Int.reduceLE,Int.reduceNe,Int.reduceAdd,beq_self_eq_true,Option.bind_eq_bind,Option.pure_def,bind_pure_comp,Option.map_eq_map,decide_eq_true_eq,ne_eq,not_false_eq_true,not_true_eq_false,Nat.lt_irrefl,Nat.reduceBEq,if_true,if_false,ite_true,ite_false,reduceCtorEq,Bool.false_eq_true,lenB_nil,lenB_slice,lenB_oslice,lenB_str,lenB_agg,indexAddrA_slice,indexAddrA_oslice,indexAddrA_ptr,indexAddrA_optr,loadA_ptr,loadA_optr,lenK,indexK,loadK,Option.toList_some,Option.toList_none,Int.reduceBEq,Int.reduceBNe,Int.reduceMod,Int.reduceDiv,Int.reduceTDiv,Int.reduceTMod,Int.reduceFDiv,Int.reduceSub,Int.reduceNeg,Int.reduceGT,Int.reduceGE,BitVec.reduceOfInt,BitVec.reduceAnd,BitVec.reduceOr,BitVec.reduceXOr,BitVec.reduceToNat,Int.cast_ofNat_Int,Int.reduceToNat,Int.reducePow,Nat.min_eq_left,Int.reduceMul,List.mapM_cons,List.mapM_nil,hT.all,hpb1]
    refine hS.call (rNum M h1 pn 4 (by omega)) fun tv h2 hq => ?_
    obtain ⟨ot, hm⟩ := hq
    rw [numI_eq] at hm
    have hbs : allBytes (ps.take (i + 1)) = allBytes (ps.take i) ++ leI pn 4 := by rw [hsn, hpy]
    have hb1 : Rep 5 1 h1 bv ob (cellsB (allBytes (ps.take i))) := hbh.mono hg.fr (fun b e hm => by
      rcases List.mem_cons.1 hm with rfl | hm
      · exact hb0 e
      · rw [Option.mem_toList] at hm
        exact hbo b hm e)
    have hb2 := hb1.mono hm.fr (by simp)
    have hlo := congrArg List.length hpy
    obtain ⟨bv', ob', h3, ha, hr, hf, hn⟩ := appB hT (M := M) hb2 (t2 := 24) (x := tv) (new := leI pn 4) hT.ty24 rfl (hm.rep.sees (M := M) |>.len (n := (leI pn 4).length) (by simp) (by omega)) (hm.rep.sees.cells_eq) (by omega)
    have hob1 : ∀ b, ob = some b → b < h1.length := fun b e => Nat.lt_of_lt_of_le (hob b e) (Nat.le_trans hfr.len hg.fr.len)
    -- the writer behind it all
    have hw3 : WS h3 0 o1 (allBytes (ps.take i) ++ leI pn 4) := by
      obtain ⟨y, hy1, hy2, hy3⟩ := hg.ws
      have hz : (0 : Nat) ∉ ob.toList := by rw [Option.mem_toList]; exact fun e => hb0 e
      refine ⟨y, hf.get (hm.fr.get hy1 (by simp)) hz, (hy2.mono hm.fr (by simp)).mono hf (fun b e hm' => ?_), hy3⟩
      rw [Option.mem_toList] at hm'
      rcases hg.new with e1 | ⟨x, e1, hx⟩
      · rw [e1] at e; exact hbo b e hm'
      · rw [e1] at e; cases e
        have := hob _ hm'
        have := hfr.len
        omega
    have hb0' : ob' ≠ some 0 := hn.ne (b := 0) (by have := lt_of_get hw01; have := hfr.len; have := hg.fr.len; have := hm.fr.len; omega) hb0
    have hbo' : ∀ b, o1 = some b → ob' ≠ some b := fun b e => by
      have hlt2 : b < h2.length := by
        obtain ⟨y, hy1, hy2, hy3⟩ := hg.ws
        exact Nat.lt_of_lt_of_le (hy2.lt e) hm.fr.len
      refine hn.ne hlt2 ?_
      rcases hg.new with e1 | ⟨x, e1, hx⟩
      · rw [e1] at e; exact hbo b e
      · rw [e1] at e; cases e
        intro hc
        have := hob _ hc
        have := hfr.len
        omega
    obtain ⟨w3, hw31, hw32, hw33⟩ := hw3
    simp only [gX,gM,gL,gB,List.map_cons,List.map_nil,wantedA,evOp,opv,absC,absC0,isAggT,resA,resultA,binA,eqA,eqGuardA,isConstA,isFlatScalar,shiftOp,strOp,ordB,readN,sliceCells,lenA,storeA,newA,buildA,fillA,buildSliceA,boundsA,bndA,sliceA,ptrOK,fieldAddrA,fieldA,indexA,extractA,convA,isIntT,biA,bytesOf,setAll,List.replicate,List.cons.injEq,exists_eq_left',exists_eq_left,exists_eq_right',eq_self,Option.map_some,Option.map_none,Option.bind_some,Option.bind_none,Option.some.injEq,Prod.mk.injEq,Nat.reduceAdd,Nat.reduceSub,Nat.reduceMul,Nat.reduceLT,Nat.reduceLeDiff,Nat.reduceEqDiff,Int.reduceEq,Int.reduceLT,Int.reduceLE,Int.reduceNe,Int.reduceAdd,beq_self_eq_true,Option.bind_eq_bind,Option.pure_def,bind_pure_comp,Option.map_eq_map,decide_eq_true_eq,ne_eq,not_false_eq_true,not_true_eq_false,Nat.lt_irrefl,Nat.reduceBEq,if_true,if_false,ite_true,ite_false,reduceCtorEq,Bool.false_eq_true,lenB_nil,lenB_slice,lenB_oslice,lenB_str,lenB_agg,indexAddrA_slice,indexAddrA_oslice,indexAddrA_ptr,indexAddrA_optr,loadA_ptr,loadA_optr,lenK,indexK,loadK,Option.toList_some,Option.toList_none,Int.reduceBEq,Int.reduceBNe,Int.reduceMod,Int.reduceDiv,Int.reduceTDiv,Int.reduceTMod,Int.reduceFDiv,Int.reduceSub,Int.reduceNeg,Int.reduceGT,Int.reduceGE,BitVec.reduceOfInt,BitVec.reduceAnd,BitVec.reduceOr,BitVec.reduceXOr,BitVec.reduceToNat,Int.cast_ofNat_Int,Int.reduceToNat,Int.reducePow,Nat.min_eq_left,Int.reduceMul,List.mapM_cons,List.mapM_nil,hT.all,ha,hwi,bne_self_eq_false,hw31]
    refine hS.one (rAlike M (hw32.sees) (hr.sees)) ?_
    simp only [gX,gM,gL,gB,List.map_cons,List.map_nil,wantedA,evOp,opv,absC,absC0,isAggT,resA,resultA,binA,eqA,eqGuardA,isConstA,isFlatScalar,shiftOp,strOp,ordB,readN,sliceCells,lenA,storeA,newA,buildA,fillA,buildSliceA,boundsA,bndA,sliceA,ptrOK,fieldAddrA,fieldA,indexA,extractA,convA,isIntT,biA,bytesOf,setAll,List.replicate,List.cons.injEq,exists_eq_left',exists_eq_left,exists_eq_right',eq_self,Option.map_some,Option.map_none,Option.bind_some,Option.bind_none,Option.some.injEq,Prod.mk.injEq,Nat.reduceAdd,Nat.reduceSub,Nat.reduceMul,Nat.reduceLT,Nat.reduceLeDiff,Nat.reduceEqDiff,Int.reduceEq,Int.reduceLT,Int.reduceLE,Int.reduceNe,Int.reduceAdd,beq_self_eq_true,Option.bind_eq_bind,Option.pure_def,bind_pure_comp,Option.map_eq_map,decide_eq_true_eq,ne_eq,not_false_eq_true,not_true_eq_false,Nat.lt_irrefl,Nat.reduceBEq,if_true,if_false,ite_true,ite_false,reduceCtorEq,Bool.false_eq_true,lenB_nil,lenB_slice,lenB_oslice,lenB_str,lenB_agg,indexAddrA_slice,indexAddrA_oslice,indexAddrA_ptr,indexAddrA_optr,loadA_ptr,loadA_optr,lenK,indexK,loadK,Option.toList_some,Option.toList_none,Int.reduceBEq,Int.reduceBNe,Int.reduceMod,Int.reduceDiv,Int.reduceTDiv,Int.reduceTMod,Int.reduceFDiv,Int.reduceSub,Int.reduceNeg,Int.reduceGT,Int.reduceGE,BitVec.reduceOfInt,BitVec.reduceAnd,BitVec.reduceOr,BitVec.reduceXOr,BitVec.reduceToNat,Int.cast_ofNat_Int,Int.reduceToNat,Int.reducePow,Nat.min_eq_left,Int.reduceMul,List.mapM_cons,List.mapM_nil,hT.all,hwi,bne_self_eq_false]
    refine hJ m0 _ _ _ (by omega) (Weak.refl _) ⟨i + 1, bv', o1, ob', _, rfl, rfl, by omega, ?_, ?_, hb0', hbo'⟩
    · rw [hbs]; exact ⟨w3, hw31, hw32, hw33⟩
    · rw [hbs]; exact hr
  by_cases hk4 : pk = 4
  · subst hk4
    have hpy : Piece.bytes ⟨4, pn, pf, pg, pt⟩ = leI pn 8 := by unfold Piece.bytes; simp
    simp only [gX,gM,gL,gB,List.map_cons,List.map_nil,wantedA,evOp,opv,absC,absC0,isAggT,resA,resultA,binA,eqA,eqGuardA,isConstA,isFlatScalar,shiftOp,strOp,ordB,readN,sliceCells,lenA,storeA,newA,buildA,fillA,buildSliceA,boundsA,bndA,sliceA,ptrOK,fieldAddrA,fieldA,indexA,extractA,convA,isIntT,biA,bytesOf,setAll,List.replicate,List.cons.injEq,exists_eq_left',exists_eq_left,exists_eq_right',eq_self,Option.map_some,Option.map_none,Option.bind_some,Option.bind_none,Option.some.injEq,Prod.mk.injEq,Nat.reduceAdd,Nat.reduceSub,Nat.reduceMul,Nat.reduceLT,Nat.reduceLeDiff,Nat.reduceEqDiff,Int.reduceEq,Int.reduceLT,Int.reduceLE,Int.reduceNe,Int.reduceAdd,beq_self_eq_true,Option.bind_eq_bind,Option.pure_def,bind_pure_comp,Option.map_eq_map,decide_eq_true_eq,ne_eq,not_false_eq_true,not_true_eq_false,Nat.lt_irrefl,Nat.reduceBEq,if_true,if_false,ite_true,ite_false,reduceCtorEq,Bool.false_eq_true,lenB_nil,lenB_slice,lenB_oslice,lenB_str,lenB_agg,indexAddrA_slice,indexAddrA_oslice,indexAddrA_ptr,indexAddrA_optr,loadA_ptr,loadA_optr,lenK,indexK,loadK,Option.toList_some,Option.toList_none,Int.reduceBEq,Int.reduceBNe,Int.reduceMod,Int.reduceDiv,Int.reduceTDiv,Int.reduceTMod,Int.reduceFDiv,Int.reduceSub,Int.reduceNeg,Int.reduceGT,Int.reduceGE,BitVec.reduceOfInt,BitVec.reduceAnd,BitVec.reduceOr,BitVec.reduceXOr,BitVec.reduceToNat,Int.cast_ofNat_Int,Int.reduceToNat,Int.reducePow,Nat.min_eq_left,Int.reduceMul,List.mapM_cons,List.mapM_nil,hT.all,hlen,g1,hix,hld,← hhd,hpb]
    refine hS.call (wU64 M hwh _ (by omega)) fun v1 h1 hq => ?_
    obtain ⟨rfl, o1, hg⟩ := hq
    have hpb1 := hg.fr.get hpb (by
      intro hc
      rcases List.mem_cons.1 hc with e | e
      · exact hne0 e
      · rw [Option.mem_toList] at e
        have := hol _ e; omega)
    simp only [gX,gM,gL,gB,List.map_cons,List.map_nil,wantedA,evOp,opv,absC,absC0,isAggT,resA,resultA,binA,eqA,eqGuardA,isConstA,isFlatScalar,shiftOp,strOp,ordB,readN,sliceCells,lenA,storeA,newA,buildA,fillA,buildSliceA,boundsA,bndA,sliceA,ptrOK,fieldAddrA,fieldA,indexA,extractA,convA,isIntT,biA,bytesOf,setAll,List.replicate,List.cons.injEq,exists_eq_left',exists_eq_left,exists_eq_right',eq_self,Option.map_some,Option.map_none,Option.bind_some,Option.bind_none,Option.some.injEq,Prod.mk.injEq,Nat.reduceAdd,Nat.reduceSub,Nat.reduceMul,Nat.reduceLT,Nat.reduceLeDiff,Nat.reduceEqDiff,Int.reduceEq,Int.reduceLT,Int.reduceLE,Int.reduceNe,Int.reduceAdd,beq_self_eq_true,Option.bind_eq_bind,Option.pure_def,bind_pure_comp,Option.map_eq_map,decide_eq_true_eq,ne_eq,not_false_eq_true,not_true_eq_false,Nat.lt_irrefl,Nat.reduceBEq,if_true,if_false,ite_true,ite_false,reduceCtorEq,Bool.false_eq_true,lenB_nil,lenB_slice,lenB_oslice,lenB_str,lenB_agg,indexAddrA_slice,indexAddrA_oslice,indexAddrA_ptr,indexAddrA_optr,loadA_ptr,loadA_optr,lenK,indexK,loadK,Option.toList_some,Option.toList_none,Int.reduceBEq,Int.reduceBNe,Int.reduceMod,Int.reduceDiv,Int.reduceTDiv,Int.reduceTMod,Int.reduceFDiv,Int.reduceSub,Int.reduceNeg,Int.reduceGT,Int.reduceGE,BitVec.reduceOfInt,BitVec.reduceAnd,BitVec.reduceOr,BitVec.reduceXOr,BitVec.reduceToNat,Int.cast_ofNat_Int,Int.reduceToNat,Int.reducePow,Nat.min_eq_left,Int.reduceMul,List.mapM_cons,List.mapM_nil,hT.all,hpb1]
    refine hS.call (rNum M h1 pn 8 (by omega)) fun tv h2 hq => ?_
    obtain ⟨ot, hm⟩ := hq
    rw [numI_eq] at hm
    have hbs : allBytes (ps.take (i + 1)) = allBytes (ps.take i) ++ leI pn 8 := by rw [hsn, hpy]
    have hb1 : Rep 5 1 h1 bv ob (cellsB (allBytes (ps.take i))) := hbh.mono hg.fr (fun b e hm => by
      rcases List.mem_cons.1 hm with rfl | hm
      · exact hb0 e
      · rw [Option.mem_toList] at hm
        exact hbo b hm e)
    have hb2 := hb1.mono hm.fr (by simp)
    have hlo := congrArg List.length hpy
    obtain ⟨bv', ob', h3, ha, hr, hf, hn⟩ := appB hT (M := M) hb2 (t2 := 24) (x := tv) (new := leI pn 8) hT.ty24 rfl (hm.rep.sees (M := M) |>.len (n := (leI pn 8).length) (by simp) (by omega)) (hm.rep.sees.cells_eq) (by omega)
    have hob1 : ∀ b, ob = some b → b < h1.length := fun b e => Nat.lt_of_lt_of_le (hob b e) (Nat.le_trans hfr.len hg.fr.len)
    -- the writer behind it all
    have hw3 : WS h3 0 o1 (allBytes (ps.take i) ++ leI pn 8) := by
      obtain ⟨y, hy1, hy2, hy3⟩ := hg.ws
      have hz : (0 : Nat) ∉ ob.toList := by rw [Option.mem_toList]; exact fun e => hb0 e
      refine ⟨y, hf.get (hm.fr.get hy1 (by simp)) hz, (hy2.mono hm.fr (by simp)).mono hf (fun b e hm' => ?_), hy3⟩
      rw [Option.mem_toList] at hm'
      rcases hg.new with e1 | ⟨x, e1, hx⟩
      · rw [e1] at e; exact hbo b e hm'
      · rw [e1] at e; cases e
        have := hob _ hm'
        have := hfr.len
        omega
    have hb0' : ob' ≠ some 0 := hn.ne (b := 0) (by have := lt_of_get hw01; have := hfr.len; have := hg.fr.len; have := hm.fr.len; omega) hb0
    have hbo' : ∀ b, o1 = some b → ob' ≠ some b := fun b e => by
      have hlt2 : b < h2.length := by
        obtain ⟨y, hy1, hy2, hy3⟩ := hg.ws
        exact Nat.lt_of_lt_of_le (hy2.lt e) hm.fr.len
      refine hn.ne hlt2 ?_
      rcases hg.new with e1 | ⟨x, e1, hx⟩
      · rw [e1] at e; exact hbo b e
      · rw [e1] at e; cases e
        intro hc
        have := hob _ hc
        have := hfr.len
        omega
    obtain ⟨w3, hw31, hw32, hw33⟩ := hw3
    simp only [gX,gM,gL,gB,List.map_cons,List.map_nil,wantedA,evOp,opv,absC,absC0,isAggT,resA,resultA,binA,eqA,eqGuardA,isConstA,isFlatScalar,shiftOp,strOp,ordB,readN,sliceCells,lenA,storeA,newA,buildA,fillA,buildSliceA,boundsA,bndA,sliceA,ptrOK,fieldAddrA,fieldA,indexA,extractA,convA,isIntT,biA,bytesOf,setAll,List.replicate,List.cons.injEq,exists_eq_left',exists_eq_left,exists_eq_right',eq_self,Option.map_some,Option.map_none,Option.bind_some,Option.bind_none,Option.some.injEq,Prod.mk.injEq,Nat.reduceAdd,Nat.reduceSub,Nat.reduceMul,Nat.reduceLT,Nat.reduceLeDiff,Nat.reduceEqDiff,Int.reduceEq,Int.reduceLT,Int.reduceLE,Int.reduceNe,Int.reduceAdd,beq_self_eq_true,Option.bind_eq_bind,Option.pure_def,bind_pure_comp,Option.map_eq_map,decide_eq_true_eq,ne_eq,not_false_eq_true,not_true_eq_false,Nat.lt_irrefl,Nat.reduceBEq,if_true,if_false,ite_true,ite_false,reduceCtorEq,Bool.false_eq_true,lenB_nil,lenB_slice,lenB_oslice,lenB_str,lenB_agg,indexAddrA_slice,indexAddrA_oslice,indexAddrA_ptr,indexAddrA_optr,loadA_ptr,loadA_optr,lenK,indexK,loadK,Option.toList_some,Option.toList_none,Int.reduceBEq,Int.reduceBNe,Int.reduceMod,Int.reduceDiv,Int.reduceTDiv,Int.reduceTMod,Int.reduceFDiv,Int.reduceSub,Int.reduceNeg,Int.reduceGT,Int.reduceGE,BitVec.reduceOfInt,BitVec.reduceAnd,BitVec.reduceOr,BitVec.reduceXOr,BitVec.reduceToNat,Int.cast_ofNat_Int,Int.reduceToNat,Int.reducePow,Nat.min_eq_left,Int.reduceMul,List.mapM_cons,List.mapM_nil,hT.all,ha,hwi,bne_self_eq_false,hw31]
    refine hS.one (rAlike M (hw32.sees) (hr.sees)) ?_
    simp only [gX,gM,gL,gB,List.map_cons,List.map_nil,wantedA,evOp,opv,absC,absC0,isAggT,resA,resultA,binA,eqA,eqGuardA,isConstA,isFlatScalar,shiftOp,strOp,ordB,readN,sliceCells,lenA,storeA,newA,buildA,fillA,buildSliceA,boundsA,bndA,sliceA,ptrOK,fieldAddrA,fieldA,indexA,extractA,convA,isIntT,biA,bytesOf,setAll,List.replicate,List.cons.injEq,exists_eq_left',exists_eq_left,exists_eq_right',eq_self,Option.map_some,Option.map_none,Option.bind_some,Option.bind_none,Option.some.injEq,Prod.mk.injEq,Nat.reduceAdd,Nat.reduceSub,Nat.reduceMul,Nat.reduceLT,Nat.reduceLeDiff,Nat.reduceEqDiff,Int.reduceEq,Int.reduceLT,Int.reduceLE,Int.reduceNe,Int.reduceAdd,beq_self_eq_true,Option.bind_eq_bind,Option.pure_def,bind_pure_comp,Option.map_eq_map,decide_eq_true_eq,ne_eq,not_false_eq_true,not_true_eq_false,Nat.lt_irrefl,Nat.reduceBEq,if_true,if_false,ite_true,ite_false,reduceCtorEq,Bool.false_eq_true,lenB_nil,lenB_slice,lenB_oslice,lenB_str,lenB_agg,indexAddrA_slice,indexAddrA_oslice,indexAddrA_ptr,indexAddrA_optr,loadA_ptr,loadA_optr,lenK,indexK,loadK,Option.toList_some,Option.toList_none,Int.reduceBEq,Int.reduceBNe,Int.reduceMod,Int.reduceDiv,Int.reduceTDiv,Int.reduceTMod,Int.reduceFDiv,Int.reduceSub,Int.reduceNeg,Int.reduceGT,Int.reduceGE,BitVec.reduceOfInt,BitVec.reduceAnd,BitVec.reduceOr,BitVec.reduceXOr,BitVec.reduceToNat,Int.cast_ofNat_Int,Int.reduceToNat,Int.reducePow,Nat.min_eq_left,Int.reduceMul,List.mapM_cons,List.mapM_nil,hT.all,hwi,bne_self_eq_false]
    refine hJ m0 _ _ _ (by omega) (Weak.refl _) ⟨i + 1, bv', o1, ob', _, rfl, rfl, by omega, ?_, ?_, hb0', hbo'⟩
    · rw [hbs]; exact ⟨w3, hw31, hw32, hw33⟩
    · rw [hbs]; exact hr
  by_cases hk5 : pk = 5
  · subst hk5
    have hpy : Piece.bytes ⟨5, pn, pf, pg, pt⟩ = leI (bits64 pf) 8 := by unfold Piece.bytes; simp
    simp only [gX,gM,gL,gB,List.map_cons,List.map_nil,wantedA,evOp,opv,absC,absC0,isAggT,resA,resultA,binA,eqA,eqGuardA,isConstA,isFlatScalar,shiftOp,strOp,ordB,readN,sliceCells,lenA,storeA,newA,buildA,fillA,buildSliceA,boundsA,bndA,sliceA,ptrOK,fieldAddrA,fieldA,indexA,extractA,convA,isIntT,biA,bytesOf,setAll,List.replicate,List.cons.injEq,exists_eq_left',exists_eq_left,exists_eq_right',eq_self,Option.map_some,Option.map_none,Option.bind_some,Option.bind_none,Option.some.injEq,Prod.mk.injEq,Nat.reduceAdd,Nat.reduceSub,Nat.reduceMul,Nat.reduceLT,Nat.reduceLeDiff,Nat.reduceEqDiff,Int.reduceEq,Int.reduceLT,Int.reduceLE,Int.reduceNe,Int.reduceAdd,beq_self_eq_true,Option.bind_eq_bind,Option.pure_def,bind_pure_comp,Option.map_eq_map,decide_eq_true_eq,ne_eq,not_false_eq_true,not_true_eq_false,Nat.lt_irrefl,Nat.reduceBEq,if_true,if_false,ite_true,ite_false,reduceCtorEq,Bool.false_eq_true,lenB_nil,lenB_slice,lenB_oslice,lenB_str,lenB_agg,indexAddrA_slice,indexAddrA_oslice,indexAddrA_ptr,indexAddrA_optr,loadA_ptr,loadA_optr,lenK,indexK,loadK,Option.toList_some,Option.toList_none,Int.reduceBEq,Int.reduceBNe,Int.reduceMod,Int.reduceDiv,Int.reduceTDiv,Int.reduceTMod,Int.reduceFDiv,Int.reduceSub,Int.reduceNeg,Int.reduceGT,Int.reduceGE,BitVec.reduceOfInt,BitVec.reduceAnd,BitVec.reduceOr,BitVec.reduceXOr,BitVec.reduceToNat,Int.cast_ofNat_Int,Int.reduceToNat,Int.reducePow,Nat.min_eq_left,Int.reduceMul,List.mapM_cons,List.mapM_nil,hT.all,hlen,g1,hix,hld,← hhd,hpb]
    refine hS.call (wF64 M hwh _ (by omega)) fun v1 h1 hq => ?_
    obtain ⟨rfl, o1, hg⟩ := hq
    have hpb1 := hg.fr.get hpb (by
      intro hc
      rcases List.mem_cons.1 hc with e | e
      · exact hne0 e
      · rw [Option.mem_toList] at e
        have := hol _ e; omega)
    simp only [gX,gM,gL,gB,List.map_cons,List.map_nil,wantedA,evOp,opv,absC,absC0,isAggT,resA,resultA,binA,eqA,eqGuardA,isConstA,isFlatScalar,shiftOp,strOp,ordB,readN,sliceCells,lenA,storeA,newA,buildA,fillA,buildSliceA,boundsA,bndA,sliceA,ptrOK,fieldAddrA,fieldA,indexA,extractA,convA,isIntT,biA,bytesOf,setAll,List.replicate,List.cons.injEq,exists_eq_left',exists_eq_left,exists_eq_right',eq_self,Option.map_some,Option.map_none,Option.bind_some,Option.bind_none,Option.some.injEq,Prod.mk.injEq,Nat.reduceAdd,Nat.reduceSub,Nat.reduceMul,Nat.reduceLT,Nat.reduceLeDiff,Nat.reduceEqDiff,Int.reduceEq,Int.reduceLT,Int.reduceLE,Int.reduceNe,Int.reduceAdd,beq_self_eq_true,Option.bind_eq_bind,Option.pure_def,bind_pure_comp,Option.map_eq_map,decide_eq_true_eq,ne_eq,not_false_eq_true,not_true_eq_false,Nat.lt_irrefl,Nat.reduceBEq,if_true,if_false,ite_true,ite_false,reduceCtorEq,Bool.false_eq_true,lenB_nil,lenB_slice,lenB_oslice,lenB_str,lenB_agg,indexAddrA_slice,indexAddrA_oslice,indexAddrA_ptr,indexAddrA_optr,loadA_ptr,loadA_optr,lenK,indexK,loadK,Option.toList_some,Option.toList_none,Int.reduceBEq,Int.reduceBNe,Int.reduceMod,Int.reduceDiv,Int.reduceTDiv,Int.reduceTMod,Int.reduceFDiv,Int.reduceSub,Int.reduceNeg,Int.reduceGT,Int.reduceGE,BitVec.reduceOfInt,BitVec.reduceAnd,BitVec.reduceOr,BitVec.reduceXOr,BitVec.reduceToNat,Int.cast_ofNat_Int,Int.reduceToNat,Int.reducePow,Nat.min_eq_left,Int.reduceMul,List.mapM_cons,List.mapM_nil,hT.all,hpb1]
    refine hS.one (rBits64 M h1 _) ?_
    simp only [gX,gM,gL,gB,List.map_cons,List.map_nil,wantedA,evOp,opv,absC,absC0,isAggT,resA,resultA,binA,eqA,eqGuardA,isConstA,isFlatScalar,shiftOp,strOp,ordB,readN,sliceCells,lenA,storeA,newA,buildA,fillA,buildSliceA,boundsA,bndA,sliceA,ptrOK,fieldAddrA,fieldA,indexA,extractA,convA,isIntT,biA,bytesOf,setAll,List.replicate,List.cons.injEq,exists_eq_left',exists_eq_left,exists_eq_right',eq_self,Option.map_some,Option.map_none,Option.bind_some,Option.bind_none,Option.some.injEq,Prod.mk.injEq,Nat.reduceAdd,Nat.reduceSub,Nat.reduceMul,Nat.reduceLT,Nat.reduceLeDiff,Nat.reduceEqDiff,Int.reduceEq,Int.reduceLT,Int.reduceLE,Int.reduceNe,Int.reduceAdd,beq_self_eq_true,Option.bind_eq_bind,Option.pure_def,bind_pure_comp,Option.map_eq_map,decide_eq_true_eq,ne_eq,not_false_eq_true,not_true_eq_false,Nat.lt_irrefl,Nat.reduceBEq,if_true,if_false,ite_true,ite_false,reduceCtorEq,Bool.false_eq_true,lenB_nil,lenB_slice,lenB_oslice,lenB_str,lenB_agg,indexAddrA_slice,indexAddrA_oslice,indexAddrA_ptr,indexAddrA_optr,loadA_ptr,loadA_optr,lenK,indexK,loadK,Option.toList_some,Option.toList_none,Int.reduceBEq,Int.reduceBNe,Int.reduceMod,Int.reduceDiv,Int.reduceTDiv,Int.reduceTMod,Int.reduceFDiv,Int.reduceSub,Int.reduceNeg,Int.reduceGT,Int.reduceGE,BitVec.reduceOfInt,BitVec.reduceAnd,BitVec.reduceOr,BitVec.reduceXOr,BitVec.reduceToNat,Int.cast_ofNat_Int,Int.reduceToNat,Int.reducePow,Nat.min_eq_left,Int.reduceMul,List.mapM_cons,List.mapM_nil,hT.all]
    refine hS.call (rNum M h1 _ 8 (by omega)) fun tv h2 hq => ?_
    obtain ⟨ot, hm⟩ := hq
    rw [numI_eq] at hm
    have hbs : allBytes (ps.take (i + 1)) = allBytes (ps.take i) ++ leI (bits64 pf) 8 := by rw [hsn, hpy]
    have hb1 : Rep 5 1 h1 bv ob (cellsB (allBytes (ps.take i))) := hbh.mono hg.fr (fun b e hm => by
      rcases List.mem_cons.1 hm with rfl | hm
      · exact hb0 e
      · rw [Option.mem_toList] at hm
        exact hbo b hm e)
    have hb2 := hb1.mono hm.fr (by simp)
    have hlo := congrArg List.length hpy
    obtain ⟨bv', ob', h3, ha, hr, hf, hn⟩ := appB hT (M := M) hb2 (t2 := 24) (x := tv) (new := leI (bits64 pf) 8) hT.ty24 rfl (hm.rep.sees (M := M) |>.len (n := (leI (bits64 pf) 8).length) (by simp) (by omega)) (hm.rep.sees.cells_eq) (by omega)
    have hob1 : ∀ b, ob = some b → b < h1.length := fun b e => Nat.lt_of_lt_of_le (hob b e) (Nat.le_trans hfr.len hg.fr.len)
    -- the writer behind it all
    have hw3 : WS h3 0 o1 (allBytes (ps.take i) ++ leI (bits64 pf) 8) := by
      obtain ⟨y, hy1, hy2, hy3⟩ := hg.ws
      have hz : (0 : Nat) ∉ ob.toList := by rw [Option.mem_toList]; exact fun e => hb0 e
      refine ⟨y, hf.get (hm.fr.get hy1 (by simp)) hz, (hy2.mono hm.fr (by simp)).mono hf (fun b e hm' => ?_), hy3⟩
      rw [Option.mem_toList] at hm'
      rcases hg.new with e1 | ⟨x, e1, hx⟩
      · rw [e1] at e; exact hbo b e hm'
      · rw [e1] at e; cases e
        have := hob _ hm'
        have := hfr.len
        omega
    have hb0' : ob' ≠ some 0 := hn.ne (b := 0) (by have := lt_of_get hw01; have := hfr.len; have := hg.fr.len; have := hm.fr.len; omega) hb0
    have hbo' : ∀ b, o1 = some b → ob' ≠ some b := fun b e => by
      have hlt2 : b < h2.length := by
        obtain ⟨y, hy1, hy2, hy3⟩ := hg.ws
        exact Nat.lt_of_lt_of_le (hy2.lt e) hm.fr.len
      refine hn.ne hlt2 ?_
      rcases hg.new with e1 | ⟨x, e1, hx⟩
      · rw [e1] at e; exact hbo b e
      · rw [e1] at e; cases e
        intro hc
        have := hob _ hc
        have := hfr.len
        omega
    obtain ⟨w3, hw31, hw32, hw33⟩ := hw3
    simp only [gX,gM,gL,gB,List.map_cons,List.map_nil,wantedA,evOp,opv,absC,absC0,isAggT,resA,resultA,binA,eqA,eqGuardA,isConstA,isFlatScalar,shiftOp,strOp,ordB,readN,sliceCells,lenA,storeA,newA,buildA,fillA,buildSliceA,boundsA,bndA,sliceA,ptrOK,fieldAddrA,fieldA,indexA,extractA,convA,isIntT,biA,bytesOf,setAll,List.replicate,List.cons.injEq,exists_eq_left',exists_eq_left,exists_eq_right',eq_self,Option.map_some,Option.map_none,Option.bind_some,Option.bind_none,Option.some.injEq,Prod.mk.injEq,Nat.reduceAdd,Nat.reduceSub,Nat.reduceMul,Nat.reduceLT,Nat.reduceLeDiff,Nat.reduceEqDiff,Int.reduceEq,Int.reduceLT,Int.reduceLE,Int.reduceNe,Int.reduceAdd,beq_self_eq_true,Option.bind_eq_bind,Option.pure_def,bind_pure_comp,Option.map_eq_map,decide_eq_true_eq,ne_eq,not_false_eq_true,not_true_eq_false,Nat.lt_irrefl,Nat.reduceBEq,if_true,if_false,ite_true,ite_false,reduceCtorEq,Bool.false_eq_true,lenB_nil,lenB_slice,lenB_oslice,lenB_str,lenB_agg,indexAddrA_slice,indexAddrA_oslice,indexAddrA_ptr,indexAddrA_optr,loadA_ptr,loadA_optr,lenK,indexK,loadK,Option.toList_some,Option.toList_none,Int.reduceBEq,Int.reduceBNe,Int.reduceMod,Int.reduceDiv,Int.reduceTDiv,Int.reduceTMod,Int.reduceFDiv,Int.reduceSub,Int.reduceNeg,Int.reduceGT,Int.reduceGE,BitVec.reduceOfInt,BitVec.reduceAnd,BitVec.reduceOr,BitVec.reduceXOr,BitVec.reduceToNat,Int.cast_ofNat_Int,Int.reduceToNat,Int.reducePow,Nat.min_eq_left,Int.reduceMul,List.mapM_cons,List.mapM_nil,hT.all,ha,hwi,bne_self_eq_false,hw31]
    refine hS.one (rAlike M (hw32.sees) (hr.sees)) ?_
    simp only [gX,gM,gL,gB,List.map_cons,List.map_nil,wantedA,evOp,opv,absC,absC0,isAggT,resA,resultA,binA,eqA,eqGuardA,isConstA,isFlatScalar,shiftOp,strOp,ordB,readN,sliceCells,lenA,storeA,newA,buildA,fillA,buildSliceA,boundsA,bndA,sliceA,ptrOK,fieldAddrA,fieldA,indexA,extractA,convA,isIntT,biA,bytesOf,setAll,List.replicate,List.cons.injEq,exists_eq_left',exists_eq_left,exists_eq_right',eq_self,Option.map_some,Option.map_none,Option.bind_some,Option.bind_none,Option.some.injEq,Prod.mk.injEq,Nat.reduceAdd,Nat.reduceSub,Nat.reduceMul,Nat.reduceLT,Nat.reduceLeDiff,Nat.reduceEqDiff,Int.reduceEq,Int.reduceLT,Int.reduceLE,Int.reduceNe,Int.reduceAdd,beq_self_eq_true,Option.bind_eq_bind,Option.pure_def,bind_pure_comp,Option.map_eq_map,decide_eq_true_eq,ne_eq,not_false_eq_true,not_true_eq_false,Nat.lt_irrefl,Nat.reduceBEq,if_true,if_false,ite_true,ite_false,reduceCtorEq,Bool.false_eq_true,lenB_nil,lenB_slice,lenB_oslice,lenB_str,lenB_agg,indexAddrA_slice,indexAddrA_oslice,indexAddrA_ptr,indexAddrA_optr,loadA_ptr,loadA_optr,lenK,indexK,loadK,Option.toList_some,Option.toList_none,Int.reduceBEq,Int.reduceBNe,Int.reduceMod,Int.reduceDiv,Int.reduceTDiv,Int.reduceTMod,Int.reduceFDiv,Int.reduceSub,Int.reduceNeg,Int.reduceGT,Int.reduceGE,BitVec.reduceOfInt,BitVec.reduceAnd,BitVec.reduceOr,BitVec.reduceXOr,BitVec.reduceToNat,Int.cast_ofNat_Int,Int.reduceToNat,Int.reducePow,Nat.min_eq_left,Int.reduceMul,List.mapM_cons,List.mapM_nil,hT.all,hwi,bne_self_eq_false]
    refine hJ m0 _ _ _ (by omega) (Weak.refl _) ⟨i + 1, bv', o1, ob', _, rfl, rfl, by omega, ?_, ?_, hb0', hbo'⟩
    · rw [hbs]; exact ⟨w3, hw31, hw32, hw33⟩
    · rw [hbs]; exact hr
  by_cases hk6 : pk = 6
  · subst hk6
    have hpy : Piece.bytes ⟨6, pn, pf, pg, pt⟩ = leI (IntKind.u64.wrap (bits32 pg)) 4 := by unfold Piece.bytes; simp
    simp only [gX,gM,gL,gB,List.map_cons,List.map_nil,wantedA,evOp,opv,absC,absC0,isAggT,resA,resultA,binA,eqA,eqGuardA,isConstA,isFlatScalar,shiftOp,strOp,ordB,readN,sliceCells,lenA,storeA,newA,buildA,fillA,buildSliceA,boundsA,bndA,sliceA,ptrOK,fieldAddrA,fieldA,indexA,extractA,convA,isIntT,biA,bytesOf,setAll,List.replicate,List.cons.injEq,exists_eq_left',exists_eq_left,exists_eq_right',eq_self,Option.map_some,Option.map_none,Option.bind_some,Option.bind_none,Option.some.injEq,Prod.mk.injEq,Nat.reduceAdd,Nat.reduceSub,Nat.reduceMul,Nat.reduceLT,Nat.reduceLeDiff,Nat.reduceEqDiff,Int.reduceEq,Int.reduceLT,Int.reduceLE,Int.reduceNe,Int.reduceAdd,beq_self_eq_true,Option.bind_eq_bind,Option.pure_def,bind_pure_comp,Option.map_eq_map,decide_eq_true_eq,ne_eq,not_false_eq_true,not_true_eq_false,Nat.lt_irrefl,Nat.reduceBEq,if_true,if_false,ite_true,ite_false,reduceCtorEq,Bool.false_eq_true,lenB_nil,lenB_slice,lenB_oslice,lenB_str,lenB_agg,indexAddrA_slice,indexAddrA_oslice,indexAddrA_ptr,indexAddrA_optr,loadA_ptr,loadA_optr,lenK,indexK,loadK,Option.toList_some,Option.toList_none,Int.reduceBEq,Int.reduceBNe,Int.reduceMod,Int.reduceDiv,Int.reduceTDiv,Int.reduceTMod,Int.reduceFDiv,Int.reduceSub,Int.reduceNeg,Int.reduceGT,Int.reduceGE,BitVec.reduceOfInt,BitVec.reduceAnd,BitVec.reduceOr,BitVec.reduceXOr,BitVec.reduceToNat,Int.cast_ofNat_Int,Int.reduceToNat,Int.reducePow,Nat.min_eq_left,Int.reduceMul,List.mapM_cons,List.mapM_nil,hT.all,hlen,g1,hix,hld,← hhd,hpb]
    refine hS.call (wF32 M hwh _ (by omega)) fun v1 h1 hq => ?_
    obtain ⟨rfl, o1, hg⟩ := hq
    have hpb1 := hg.fr.get hpb (by
      intro hc
      rcases List.mem_cons.1 hc with e | e
      · exact hne0 e
      · rw [Option.mem_toList] at e
        have := hol _ e; omega)
    simp only [gX,gM,gL,gB,List.map_cons,List.map_nil,wantedA,evOp,opv,absC,absC0,isAggT,resA,resultA,binA,eqA,eqGuardA,isConstA,isFlatScalar,shiftOp,strOp,ordB,readN,sliceCells,lenA,storeA,newA,buildA,fillA,buildSliceA,boundsA,bndA,sliceA,ptrOK,fieldAddrA,fieldA,indexA,extractA,convA,isIntT,biA,bytesOf,setAll,List.replicate,List.cons.injEq,exists_eq_left',exists_eq_left,exists_eq_right',eq_self,Option.map_some,Option.map_none,Option.bind_some,Option.bind_none,Option.some.injEq,Prod.mk.injEq,Nat.reduceAdd,Nat.reduceSub,Nat.reduceMul,Nat.reduceLT,Nat.reduceLeDiff,Nat.reduceEqDiff,Int.reduceEq,Int.reduceLT,Int.reduceLE,Int.reduceNe,Int.reduceAdd,beq_self_eq_true,Option.bind_eq_bind,Option.pure_def,bind_pure_comp,Option.map_eq_map,decide_eq_true_eq,ne_eq,not_false_eq_true,not_true_eq_false,Nat.lt_irrefl,Nat.reduceBEq,if_true,if_false,ite_true,ite_false,reduceCtorEq,Bool.false_eq_true,lenB_nil,lenB_slice,lenB_oslice,lenB_str,lenB_agg,indexAddrA_slice,indexAddrA_oslice,indexAddrA_ptr,indexAddrA_optr,loadA_ptr,loadA_optr,lenK,indexK,loadK,Option.toList_some,Option.toList_none,Int.reduceBEq,Int.reduceBNe,Int.reduceMod,Int.reduceDiv,Int.reduceTDiv,Int.reduceTMod,Int.reduceFDiv,Int.reduceSub,Int.reduceNeg,Int.reduceGT,Int.reduceGE,BitVec.reduceOfInt,BitVec.reduceAnd,BitVec.reduceOr,BitVec.reduceXOr,BitVec.reduceToNat,Int.cast_ofNat_Int,Int.reduceToNat,Int.reducePow,Nat.min_eq_left,Int.reduceMul,List.mapM_cons,List.mapM_nil,hT.all,hpb1]
    refine hS.one (rBits32 M h1 _) ?_
    simp only [gX,gM,gL,gB,List.map_cons,List.map_nil,wantedA,evOp,opv,absC,absC0,isAggT,resA,resultA,binA,eqA,eqGuardA,isConstA,isFlatScalar,shiftOp,strOp,ordB,readN,sliceCells,lenA,storeA,newA,buildA,fillA,buildSliceA,boundsA,bndA,sliceA,ptrOK,fieldAddrA,fieldA,indexA,extractA,convA,isIntT,biA,bytesOf,setAll,List.replicate,List.cons.injEq,exists_eq_left',exists_eq_left,exists_eq_right',eq_self,Option.map_some,Option.map_none,Option.bind_some,Option.bind_none,Option.some.injEq,Prod.mk.injEq,Nat.reduceAdd,Nat.reduceSub,Nat.reduceMul,Nat.reduceLT,Nat.reduceLeDiff,Nat.reduceEqDiff,Int.reduceEq,Int.reduceLT,Int.reduceLE,Int.reduceNe,Int.reduceAdd,beq_self_eq_true,Option.bind_eq_bind,Option.pure_def,bind_pure_comp,Option.map_eq_map,decide_eq_true_eq,ne_eq,not_false_eq_true,not_true_eq_false,Nat.lt_irrefl,Nat.reduceBEq,if_true,if_false,ite_true,ite_false,reduceCtorEq,Bool.false_eq_true,lenB_nil,lenB_slice,lenB_oslice,lenB_str,lenB_agg,indexAddrA_slice,indexAddrA_oslice,indexAddrA_ptr,indexAddrA_optr,loadA_ptr,loadA_optr,lenK,indexK,loadK,Option.toList_some,Option.toList_none,Int.reduceBEq,Int.reduceBNe,Int.reduceMod,Int.reduceDiv,Int.reduceTDiv,Int.reduceTMod,Int.reduceFDiv,Int.reduceSub,Int.reduceNeg,Int.reduceGT,Int.reduceGE,BitVec.reduceOfInt,BitVec.reduceAnd,BitVec.reduceOr,BitVec.reduceXOr,BitVec.reduceToNat,Int.cast_ofNat_Int,Int.reduceToNat,Int.reducePow,Nat.min_eq_left,Int.reduceMul,List.mapM_cons,List.mapM_nil,hT.all]
    refine hS.call (rNum M h1 _ 4 (by omega)) fun tv h2 hq => ?_
    obtain ⟨ot, hm⟩ := hq
    rw [numI_eq] at hm
    have hbs : allBytes (ps.take (i + 1)) = allBytes (ps.take i) ++ leI (IntKind.u64.wrap (bits32 pg)) 4 := by rw [hsn, hpy]
    have hb1 : Rep 5 1 h1 bv ob (cellsB (allBytes (ps.take i))) := hbh.mono hg.fr (fun b e hm => by
      rcases List.mem_cons.1 hm with rfl | hm
      · exact hb0 e
      · rw [Option.mem_toList] at hm
        exact hbo b hm e)
    have hb2 := hb1.mono hm.fr (by simp)
    have hlo := congrArg List.length hpy
    obtain ⟨bv', ob', h3, ha, hr, hf, hn⟩ := appB hT (M := M) hb2 (t2 := 24) (x := tv) (new := leI (IntKind.u64.wrap (bits32 pg)) 4) hT.ty24 rfl (hm.rep.sees (M := M) |>.len (n := (leI (IntKind.u64.wrap (bits32 pg)) 4).length) (by simp) (by omega)) (hm.rep.sees.cells_eq) (by omega)
    have hob1 : ∀ b, ob = some b → b < h1.length := fun b e => Nat.lt_of_lt_of_le (hob b e) (Nat.le_trans hfr.len hg.fr.len)
    -- the writer behind it all
    have hw3 : WS h3 0 o1 (allBytes (ps.take i) ++ leI (IntKind.u64.wrap (bits32 pg)) 4) := by
      obtain ⟨y, hy1, hy2, hy3⟩ := hg.ws
      have hz : (0 : Nat) ∉ ob.toList := by rw [Option.mem_toList]; exact fun e => hb0 e
      refine ⟨y, hf.get (hm.fr.get hy1 (by simp)) hz, (hy2.mono hm.fr (by simp)).mono hf (fun b e hm' => ?_), hy3⟩
      rw [Option.mem_toList] at hm'
      rcases hg.new with e1 | ⟨x, e1, hx⟩
      · rw [e1] at e; exact hbo b e hm'
      · rw [e1] at e; cases e
        have := hob _ hm'
        have := hfr.len
        omega
    have hb0' : ob' ≠ some 0 := hn.ne (b := 0) (by have := lt_of_get hw01; have := hfr.len; have := hg.fr.len; have := hm.fr.len; omega) hb0
    have hbo' : ∀ b, o1 = some b → ob' ≠ some b := fun b e => by
      have hlt2 : b < h2.length := by
        obtain ⟨y, hy1, hy2, hy3⟩ := hg.ws
        exact Nat.lt_of_lt_of_le (hy2.lt e) hm.fr.len
      refine hn.ne hlt2 ?_
      rcases hg.new with e1 | ⟨x, e1, hx⟩
      · rw [e1] at e; exact hbo b e
      · rw [e1] at e; cases e
        intro hc
        have := hob _ hc
        have := hfr.len
        omega
    obtain ⟨w3, hw31, hw32, hw33⟩ := hw3
    simp only [gX,gM,gL,gB,List.map_cons,List.map_nil,wantedA,evOp,opv,absC,absC0,isAggT,resA,resultA,binA,eqA,eqGuardA,isConstA,isFlatScalar,shiftOp,strOp,ordB,readN,sliceCells,lenA,storeA,newA,buildA,fillA,buildSliceA,boundsA,bndA,sliceA,ptrOK,fieldAddrA,fieldA,indexA,extractA,convA,isIntT,biA,bytesOf,setAll,List.replicate,List.cons.injEq,exists_eq_left',exists_eq_left,exists_eq_right',eq_self,Option.map_some,Option.map_none,Option.bind_some,Option.bind_none,Option.some.injEq,Prod.mk.injEq,Nat.reduceAdd,Nat.reduceSub,Nat.reduceMul,Nat.reduceLT,Nat.reduceLeDiff,Nat.reduceEqDiff,Int.reduceEq,Int.reduceLT,Int.reduceLE,Int.reduceNe,Int.reduceAdd,beq_self_eq_true,Option.bind_eq_bind,Option.pure_def,bind_pure_comp,Option.map_eq_map,decide_eq_true_eq,ne_eq,not_false_eq_true,not_true_eq_false,Nat.lt_irrefl,Nat.reduceBEq,if_true,if_false,ite_true,ite_false,reduceCtorEq,Bool.false_eq_true,lenB_nil,lenB_slice,lenB_oslice,lenB_str,lenB_agg,indexAddrA_slice,indexAddrA_oslice,indexAddrA_ptr,indexAddrA_optr,loadA_ptr,loadA_optr,lenK,indexK,loadK,Option.toList_some,Option.toList_none,Int.reduceBEq,Int.reduceBNe,Int.reduceMod,Int.reduceDiv,Int.reduceTDiv,Int.reduceTMod,Int.reduceFDiv,Int.reduceSub,Int.reduceNeg,Int.reduceGT,Int.reduceGE,BitVec.reduceOfInt,BitVec.reduceAnd,BitVec.reduceOr,BitVec.reduceXOr,BitVec.reduceToNat,Int.cast_ofNat_Int,Int.reduceToNat,Int.reducePow,Nat.min_eq_left,Int.reduceMul,List.mapM_cons,List.mapM_nil,hT.all,ha,hwi,bne_self_eq_false,hw31]
    refine hS.one (rAlike M (hw32.sees) (hr.sees)) ?_
    simp only [gX,gM,gL,gB,List.map_cons,List.map_nil,wantedA,evOp,opv,absC,absC0,isAggT,resA,resultA,binA,eqA,eqGuardA,isConstA,isFlatScalar,shiftOp,strOp,ordB,readN,sliceCells,lenA,storeA,newA,buildA,fillA,buildSliceA,boundsA,bndA,sliceA,ptrOK,fieldAddrA,fieldA,indexA,extractA,convA,isIntT,biA,bytesOf,setAll,List.replicate,List.cons.injEq,exists_eq_left',exists_eq_left,exists_eq_right',eq_self,Option.map_some,Option.map_none,Option.bind_some,Option.bind_none,Option.some.injEq,Prod.mk.injEq,Nat.reduceAdd,Nat.reduceSub,Nat.reduceMul,Nat.reduceLT,Nat.reduceLeDiff,Nat.reduceEqDiff,Int.reduceEq,Int.reduceLT,Int.reduceLE,Int.reduceNe,Int.reduceAdd,beq_self_eq_true,Option.bind_eq_bind,Option.pure_def,bind_pure_comp,Option.map_eq_map,decide_eq_true_eq,ne_eq,not_false_eq_true,not_true_eq_false,Nat.lt_irrefl,Nat.reduceBEq,if_true,if_false,ite_true,ite_false,reduceCtorEq,Bool.false_eq_true,lenB_nil,lenB_slice,lenB_oslice,lenB_str,lenB_agg,indexAddrA_slice,indexAddrA_oslice,indexAddrA_ptr,indexAddrA_optr,loadA_ptr,loadA_optr,lenK,indexK,loadK,Option.toList_some,Option.toList_none,Int.reduceBEq,Int.reduceBNe,Int.reduceMod,Int.reduceDiv,Int.reduceTDiv,Int.reduceTMod,Int.reduceFDiv,Int.reduceSub,Int.reduceNeg,Int.reduceGT,Int.reduceGE,BitVec.reduceOfInt,BitVec.reduceAnd,BitVec.reduceOr,BitVec.reduceXOr,BitVec.reduceToNat,Int.cast_ofNat_Int,Int.reduceToNat,Int.reducePow,Nat.min_eq_left,Int.reduceMul,List.mapM_cons,List.mapM_nil,hT.all,hwi,bne_self_eq_false]
    refine hJ m0 _ _ _ (by omega) (Weak.refl _) ⟨i + 1, bv', o1, ob', _, rfl, rfl, by omega, ?_, ?_, hb0', hbo'⟩
    · rw [hbs]; exact ⟨w3, hw31, hw32, hw33⟩
    · rw [hbs]; exact hr
  by_cases hk7 : pk = 7
  · subst hk7
    have hpy : Piece.bytes ⟨7, pn, pf, pg, pt⟩ = textBytes pt := by unfold Piece.bytes; simp
    simp only [gX,gM,gL,gB,List.map_cons,List.map_nil,wantedA,evOp,opv,absC,absC0,isAggT,resA,resultA,binA,eqA,eqGuardA,isConstA,isFlatScalar,shiftOp,strOp,ordB,readN,sliceCells,lenA,storeA,newA,buildA,fillA,buildSliceA,boundsA,bndA,sliceA,ptrOK,fieldAddrA,fieldA,indexA,extractA,convA,isIntT,biA,bytesOf,setAll,List.replicate,List.cons.injEq,exists_eq_left',exists_eq_left,exists_eq_right',eq_self,Option.map_some,Option.map_none,Option.bind_some,Option.bind_none,Option.some.injEq,Prod.mk.injEq,Nat.reduceAdd,Nat.reduceSub,Nat.reduceMul,Nat.reduceLT,Nat.reduceLeDiff,Nat.reduceEqDiff,Int.reduceEq,Int.reduceLT,Int.reduceLE,Int.reduceNe,Int.reduceAdd,beq_self_eq_true,Option.bind_eq_bind,Option.pure_def,bind_pure_comp,Option.map_eq_map,decide_eq_true_eq,ne_eq,not_false_eq_true,not_true_eq_false,Nat.lt_irrefl,Nat.reduceBEq,if_true,if_false,ite_true,ite_false,reduceCtorEq,Bool.false_eq_true,lenB_nil,lenB_slice,lenB_oslice,lenB_str,lenB_agg,indexAddrA_slice,indexAddrA_oslice,indexAddrA_ptr,indexAddrA_optr,loadA_ptr,loadA_optr,lenK,indexK,loadK,Option.toList_some,Option.toList_none,Int.reduceBEq,Int.reduceBNe,Int.reduceMod,Int.reduceDiv,Int.reduceTDiv,Int.reduceTMod,Int.reduceFDiv,Int.reduceSub,Int.reduceNeg,Int.reduceGT,Int.reduceGE,BitVec.reduceOfInt,BitVec.reduceAnd,BitVec.reduceOr,BitVec.reduceXOr,BitVec.reduceToNat,Int.cast_ofNat_Int,Int.reduceToNat,Int.reducePow,Nat.min_eq_left,Int.reduceMul,List.mapM_cons,List.mapM_nil,hT.all,hlen,g1,hix,hld,← hhd,hpb]
    refine hS.call (wText M hM hwh _ hps (by omega)) fun v1 h1 hq => ?_
    obtain ⟨rfl, o1, hg⟩ := hq
    have hpb1 := hg.fr.get hpb (by
      intro hc
      rcases List.mem_cons.1 hc with e | e
      · exact hne0 e
      · rw [Option.mem_toList] at e
        have := hol _ e; omega)
    simp only [gX,gM,gL,gB,List.map_cons,List.map_nil,wantedA,evOp,opv,absC,absC0,isAggT,resA,resultA,binA,eqA,eqGuardA,isConstA,isFlatScalar,shiftOp,strOp,ordB,readN,sliceCells,lenA,storeA,newA,buildA,fillA,buildSliceA,boundsA,bndA,sliceA,ptrOK,fieldAddrA,fieldA,indexA,extractA,convA,isIntT,biA,bytesOf,setAll,List.replicate,List.cons.injEq,exists_eq_left',exists_eq_left,exists_eq_right',eq_self,Option.map_some,Option.map_none,Option.bind_some,Option.bind_none,Option.some.injEq,Prod.mk.injEq,Nat.reduceAdd,Nat.reduceSub,Nat.reduceMul,Nat.reduceLT,Nat.reduceLeDiff,Nat.reduceEqDiff,Int.reduceEq,Int.reduceLT,Int.reduceLE,Int.reduceNe,Int.reduceAdd,beq_self_eq_true,Option.bind_eq_bind,Option.pure_def,bind_pure_comp,Option.map_eq_map,decide_eq_true_eq,ne_eq,not_false_eq_true,not_true_eq_false,Nat.lt_irrefl,Nat.reduceBEq,if_true,if_false,ite_true,ite_false,reduceCtorEq,Bool.false_eq_true,lenB_nil,lenB_slice,lenB_oslice,lenB_str,lenB_agg,indexAddrA_slice,indexAddrA_oslice,indexAddrA_ptr,indexAddrA_optr,loadA_ptr,loadA_optr,lenK,indexK,loadK,Option.toList_some,Option.toList_none,Int.reduceBEq,Int.reduceBNe,Int.reduceMod,Int.reduceDiv,Int.reduceTDiv,Int.reduceTMod,Int.reduceFDiv,Int.reduceSub,Int.reduceNeg,Int.reduceGT,Int.reduceGE,BitVec.reduceOfInt,BitVec.reduceAnd,BitVec.reduceOr,BitVec.reduceXOr,BitVec.reduceToNat,Int.cast_ofNat_Int,Int.reduceToNat,Int.reducePow,Nat.min_eq_left,Int.reduceMul,List.mapM_cons,List.mapM_nil,hT.all,hpb1]
    refine hS.call (rText M h1 _ hps) fun v1 h2 hq => ?_
    obtain ⟨tv, ot, rfl, hm⟩ := hq
    have hbs : allBytes (ps.take (i + 1)) = allBytes (ps.take i) ++ textBytes pt := by rw [hsn, hpy]
    have hb1 : Rep 5 1 h1 bv ob (cellsB (allBytes (ps.take i))) := hbh.mono hg.fr (fun b e hm => by
      rcases List.mem_cons.1 hm with rfl | hm
      · exact hb0 e
      · rw [Option.mem_toList] at hm
        exact hbo b hm e)
    have hb2 := hb1.mono hm.fr (by simp)
    have hlo := congrArg List.length hpy
    obtain ⟨bv', ob', h3, ha, hr, hf, hn⟩ := appB hT (M := M) hb2 (t2 := 24) (x := tv) (new := textBytes pt) hT.ty24 rfl (hm.rep.sees (M := M) |>.len (n := (textBytes pt).length) (by simp) (by omega)) (hm.rep.sees.cells_eq) (by omega)
    have hob1 : ∀ b, ob = some b → b < h1.length := fun b e => Nat.lt_of_lt_of_le (hob b e) (Nat.le_trans hfr.len hg.fr.len)
    -- the writer behind it all
    have hw3 : WS h3 0 o1 (allBytes (ps.take i) ++ textBytes pt) := by
      obtain ⟨y, hy1, hy2, hy3⟩ := hg.ws
      have hz : (0 : Nat) ∉ ob.toList := by rw [Option.mem_toList]; exact fun e => hb0 e
      refine ⟨y, hf.get (hm.fr.get hy1 (by simp)) hz, (hy2.mono hm.fr (by simp)).mono hf (fun b e hm' => ?_), hy3⟩
      rw [Option.mem_toList] at hm'
      rcases hg.new with e1 | ⟨x, e1, hx⟩
      · rw [e1] at e; exact hbo b e hm'
      · rw [e1] at e; cases e
        have := hob _ hm'
        have := hfr.len
        omega
    have hb0' : ob' ≠ some 0 := hn.ne (b := 0) (by have := lt_of_get hw01; have := hfr.len; have := hg.fr.len; have := hm.fr.len; omega) hb0
    have hbo' : ∀ b, o1 = some b → ob' ≠ some b := fun b e => by
      have hlt2 : b < h2.length := by
        obtain ⟨y, hy1, hy2, hy3⟩ := hg.ws
        exact Nat.lt_of_lt_of_le (hy2.lt e) hm.fr.len
      refine hn.ne hlt2 ?_
      rcases hg.new with e1 | ⟨x, e1, hx⟩
      · rw [e1] at e; exact hbo b e
      · rw [e1] at e; cases e
        intro hc
        have := hob _ hc
        have := hfr.len
        omega
    obtain ⟨w3, hw31, hw32, hw33⟩ := hw3
    simp only [gX,gM,gL,gB,List.map_cons,List.map_nil,wantedA,evOp,opv,absC,absC0,isAggT,resA,resultA,binA,eqA,eqGuardA,isConstA,isFlatScalar,shiftOp,strOp,ordB,readN,sliceCells,lenA,storeA,newA,buildA,fillA,buildSliceA,boundsA,bndA,sliceA,ptrOK,fieldAddrA,fieldA,indexA,extractA,convA,isIntT,biA,bytesOf,setAll,List.replicate,List.cons.injEq,exists_eq_left',exists_eq_left,exists_eq_right',eq_self,Option.map_some,Option.map_none,Option.bind_some,Option.bind_none,Option.some.injEq,Prod.mk.injEq,Nat.reduceAdd,Nat.reduceSub,Nat.reduceMul,Nat.reduceLT,Nat.reduceLeDiff,Nat.reduceEqDiff,Int.reduceEq,Int.reduceLT,Int.reduceLE,Int.reduceNe,Int.reduceAdd,beq_self_eq_true,Option.bind_eq_bind,Option.pure_def,bind_pure_comp,Option.map_eq_map,decide_eq_true_eq,ne_eq,not_false_eq_true,not_true_eq_false,Nat.lt_irrefl,Nat.reduceBEq,if_true,if_false,ite_true,ite_false,reduceCtorEq,Bool.false_eq_true,lenB_nil,lenB_slice,lenB_oslice,lenB_str,lenB_agg,indexAddrA_slice,indexAddrA_oslice,indexAddrA_ptr,indexAddrA_optr,loadA_ptr,loadA_optr,lenK,indexK,loadK,Option.toList_some,Option.toList_none,Int.reduceBEq,Int.reduceBNe,Int.reduceMod,Int.reduceDiv,Int.reduceTDiv,Int.reduceTMod,Int.reduceFDiv,Int.reduceSub,Int.reduceNeg,Int.reduceGT,Int.reduceGE,BitVec.reduceOfInt,BitVec.reduceAnd,BitVec.reduceOr,BitVec.reduceXOr,BitVec.reduceToNat,Int.cast_ofNat_Int,Int.reduceToNat,Int.reducePow,Nat.min_eq_left,Int.reduceMul,List.mapM_cons,List.mapM_nil,hT.all,ha,hwi,bne_self_eq_false,hw31]
    refine hS.one (rAlike M (hw32.sees) (hr.sees)) ?_
    simp only [gX,gM,gL,gB,List.map_cons,List.map_nil,wantedA,evOp,opv,absC,absC0,isAggT,resA,resultA,binA,eqA,eqGuardA,isConstA,isFlatScalar,shiftOp,strOp,ordB,readN,sliceCells,lenA,storeA,newA,buildA,fillA,buildSliceA,boundsA,bndA,sliceA,ptrOK,fieldAddrA,fieldA,indexA,extractA,convA,isIntT,biA,bytesOf,setAll,List.replicate,List.cons.injEq,exists_eq_left',exists_eq_left,exists_eq_right',eq_self,Option.map_some,Option.map_none,Option.bind_some,Option.bind_none,Option.some.injEq,Prod.mk.injEq,Nat.reduceAdd,Nat.reduceSub,Nat.reduceMul,Nat.reduceLT,Nat.reduceLeDiff,Nat.reduceEqDiff,Int.reduceEq,Int.reduceLT,Int.reduceLE,Int.reduceNe,Int.reduceAdd,beq_self_eq_true,Option.bind_eq_bind,Option.pure_def,bind_pure_comp,Option.map_eq_map,decide_eq_true_eq,ne_eq,not_false_eq_true,not_true_eq_false,Nat.lt_irrefl,Nat.reduceBEq,if_true,if_false,ite_true,ite_false,reduceCtorEq,Bool.false_eq_true,lenB_nil,lenB_slice,lenB_oslice,lenB_str,lenB_agg,indexAddrA_slice,indexAddrA_oslice,indexAddrA_ptr,indexAddrA_optr,loadA_ptr,loadA_optr,lenK,indexK,loadK,Option.toList_some,Option.toList_none,Int.reduceBEq,Int.reduceBNe,Int.reduceMod,Int.reduceDiv,Int.reduceTDiv,Int.reduceTMod,Int.reduceFDiv,Int.reduceSub,Int.reduceNeg,Int.reduceGT,Int.reduceGE,BitVec.reduceOfInt,BitVec.reduceAnd,BitVec.reduceOr,BitVec.reduceXOr,BitVec.reduceToNat,Int.cast_ofNat_Int,Int.reduceToNat,Int.reducePow,Nat.min_eq_left,Int.reduceMul,List.mapM_cons,List.mapM_nil,hT.all,hwi,bne_self_eq_false]
    refine hJ m0 _ _ _ (by omega) (Weak.refl _) ⟨i + 1, bv', o1, ob', _, rfl, rfl, by omega, ?_, ?_, hb0', hbo'⟩
    · rw [hbs]; exact ⟨w3, hw31, hw32, hw33⟩
    · rw [hbs]; exact hr
  have hpy : Piece.bytes ⟨pk, pn, pf, pg, pt⟩ = [] := by unfold Piece.bytes; simp [hk1, hk2, hk3, hk4, hk5, hk6, hk7]
  have n1 : (pk == 1) = false := by simp [hk1]
  have n2 : (pk == 2) = false := by simp [hk2]
  have n3 : (pk == 3) = false := by simp [hk3]
  have n4 : (pk == 4) = false := by simp [hk4]
  have n5 : (pk == 5) = false := by simp [hk5]
  have n6 : (pk == 6) = false := by simp [hk6]
  have n7 : (pk == 7) = false := by simp [hk7]
  have hg : WG hh hh 0 o o (allBytes (ps.take i) ++ []) := WG.refl hwh
  have hm : Made hh hh .nilslice none [] := ⟨.nil, Fr.refl _ _, .inl rfl⟩
  have hbs : allBytes (ps.take (i + 1)) = allBytes (ps.take i) ++ [] := by rw [hsn, hpy]
  have hb1 : Rep 5 1 hh bv ob (cellsB (allBytes (ps.take i))) := hbh.mono hg.fr (fun b e hm => by
    rcases List.mem_cons.1 hm with rfl | hm
    · exact hb0 e
    · rw [Option.mem_toList] at hm
      exact hbo b hm e)
  have hb2 := hb1.mono hm.fr (by simp)
  have hlo := congrArg List.length hpy
  obtain ⟨bv', ob', h3, ha, hr, hf, hn⟩ := appB hT (M := M) hb2 (t2 := 24) (x := .nilslice) (new := []) hT.ty24 rfl (hm.rep.sees (M := M) |>.len (n := ([]).length) (by simp) (by omega)) (hm.rep.sees.cells_eq) (by omega)
  have hob1 : ∀ b, ob = some b → b < hh.length := fun b e => Nat.lt_of_lt_of_le (hob b e) (Nat.le_trans hfr.len hg.fr.len)
  -- the writer behind it all
  have hw3 : WS h3 0 o (allBytes (ps.take i) ++ []) := by
    obtain ⟨y, hy1, hy2, hy3⟩ := hg.ws
    have hz : (0 : Nat) ∉ ob.toList := by rw [Option.mem_toList]; exact fun e => hb0 e
    refine ⟨y, hf.get (hm.fr.get hy1 (by simp)) hz, (hy2.mono hm.fr (by simp)).mono hf (fun b e hm' => ?_), hy3⟩
    rw [Option.mem_toList] at hm'
    rcases hg.new with e1 | ⟨x, e1, hx⟩
    · rw [e1] at e; exact hbo b e hm'
    · rw [e1] at e; cases e
      have := hob _ hm'
      have := hfr.len
      omega
  have hb0' : ob' ≠ some 0 := hn.ne (b := 0) (by have := lt_of_get hw01; have := hfr.len; have := hg.fr.len; have := hm.fr.len; omega) hb0
  have hbo' : ∀ b, o = some b → ob' ≠ some b := fun b e => by
    have hlt2 : b < hh.length := by
      obtain ⟨y, hy1, hy2, hy3⟩ := hg.ws
      exact Nat.lt_of_lt_of_le (hy2.lt e) hm.fr.len
    refine hn.ne hlt2 ?_
    rcases hg.new with e1 | ⟨x, e1, hx⟩
    · rw [e1] at e; exact hbo b e
    · rw [e1] at e; cases e
      intro hc
      have := hob _ hc
      have := hfr.len
      omega
  obtain ⟨w3, hw31, hw32, hw33⟩ := hw3
  simp only [gX,gM,gL,gB,List.map_cons,List.map_nil,wantedA,evOp,opv,absC,absC0,isAggT,resA,resultA,binA,eqA,eqGuardA,isConstA,isFlatScalar,shiftOp,strOp,ordB,readN,sliceCells,lenA,storeA,newA,buildA,fillA,buildSliceA,boundsA,bndA,sliceA,ptrOK,fieldAddrA,fieldA,indexA,extractA,convA,isIntT,biA,bytesOf,setAll,List.replicate,List.cons.injEq,exists_eq_left',exists_eq_left,exists_eq_right',eq_self,Option.map_some,Option.map_none,Option.bind_some,Option.bind_none,Option.some.injEq,Prod.mk.injEq,Nat.reduceAdd,Nat.reduceSub,Nat.reduceMul,Nat.reduceLT,Nat.reduceLeDiff,Nat.reduceEqDiff,Int.reduceEq,Int.reduceLT,Int.reduceLE,Int.reduceNe,Int.reduceAdd,beq_self_eq_true,Option.bind_eq_bind,Option.pure_def,bind_pure_comp,Option.map_eq_map,decide_eq_true_eq,ne_eq,not_false_eq_true,not_true_eq_false,Nat.lt_irrefl,Nat.reduceBEq,if_true,if_false,ite_true,ite_false,reduceCtorEq,Bool.false_eq_true,lenB_nil,lenB_slice,lenB_oslice,lenB_str,lenB_agg,indexAddrA_slice,indexAddrA_oslice,indexAddrA_ptr,indexAddrA_optr,loadA_ptr,loadA_optr,lenK,indexK,loadK,Option.toList_some,Option.toList_none,Int.reduceBEq,Int.reduceBNe,Int.reduceMod,Int.reduceDiv,Int.reduceTDiv,Int.reduceTMod,Int.reduceFDiv,Int.reduceSub,Int.reduceNeg,Int.reduceGT,Int.reduceGE,BitVec.reduceOfInt,BitVec.reduceAnd,BitVec.reduceOr,BitVec.reduceXOr,BitVec.reduceToNat,Int.cast_ofNat_Int,Int.reduceToNat,Int.reducePow,Nat.min_eq_left,Int.reduceMul,List.mapM_cons,List.mapM_nil,hT.all,hlen,g1,hix,hld,n1,n2,n3,n4,n5,n6,n7,← hhd,hpb,ha,hwi,bne_self_eq_false,hw31]
  refine hS.one (rAlike M (hw32.sees) (hr.sees)) ?_
  simp only [gX,gM,gL,gB,List.map_cons,List.map_nil,wantedA,evOp,opv,absC,absC0,isAggT,resA,resultA,binA,eqA,eqGuardA,isConstA,isFlatScalar,shiftOp,strOp,ordB,readN,sliceCells,lenA,storeA,newA,buildA,fillA,buildSliceA,boundsA,bndA,sliceA,ptrOK,fieldAddrA,fieldA,indexA,extractA,convA,isIntT,biA,bytesOf,setAll,List.replicate,List.cons.injEq,exists_eq_left',exists_eq_left,exists_eq_right',eq_self,Option.map_some,Option.map_none,Option.bind_some,Option.bind_none,Option.some.injEq,Prod.mk.injEq,Nat.reduceAdd,Nat.reduceSub,Nat.reduceMul,Nat.reduceLT,Nat.reduceLeDiff,Nat.reduceEqDiff,Int.reduceEq,Int.reduceLT,Int.reduceLE,Int.reduceNe,Int.reduceAdd,beq_self_eq_true,Option.bind_eq_bind,Option.pure_def,bind_pure_comp,Option.map_eq_map,decide_eq_true_eq,ne_eq,not_false_eq_true,not_true_eq_false,Nat.lt_irrefl,Nat.reduceBEq,if_true,if_false,ite_true,ite_false,reduceCtorEq,Bool.false_eq_true,lenB_nil,lenB_slice,lenB_oslice,lenB_str,lenB_agg,indexAddrA_slice,indexAddrA_oslice,indexAddrA_ptr,indexAddrA_optr,loadA_ptr,loadA_optr,lenK,indexK,loadK,Option.toList_some,Option.toList_none,Int.reduceBEq,Int.reduceBNe,Int.reduceMod,Int.reduceDiv,Int.reduceTDiv,Int.reduceTMod,Int.reduceFDiv,Int.reduceSub,Int.reduceNeg,Int.reduceGT,Int.reduceGE,BitVec.reduceOfInt,BitVec.reduceAnd,BitVec.reduceOr,BitVec.reduceXOr,BitVec.reduceToNat,Int.cast_ofNat_Int,Int.reduceToNat,Int.reducePow,Nat.min_eq_left,Int.reduceMul,List.mapM_cons,List.mapM_nil,hT.all,hwi,bne_self_eq_false]
  refine hJ m0 _ _ _ (by omega) (Weak.refl _) ⟨i + 1, bv', o, ob', _, rfl, rfl, by omega, ?_, ?_, hb0', hbo'⟩
  · rw [hbs]; exact ⟨w3, hw31, hw32, hw33⟩
  · rw [hbs]; exact hr

end Go.Proofs.YtnmignkabcblgaaDoor.C
