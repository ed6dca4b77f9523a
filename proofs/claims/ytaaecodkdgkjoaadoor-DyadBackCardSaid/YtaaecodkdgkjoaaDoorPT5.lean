/- Part of a claim: the last sign of a text: LastIndexAny. -/
import Derived.Test.YtaaecodkdgkjoaaDoorPT4
set_option linter.unusedSimpArgs false
set_option linter.unusedVariables false
set_option maxRecDepth 100000
set_option maxHeartbeats 10000000
namespace Go.Proofs.YtaaecodkdgkjoaaDoor.B
open Go Go.RowKit Go.Proofs.YtaaecodkdgkjoaaDoor.E

/-! ### The set of two signs -/
def set2 : List AV := (List.range 256).map fun i => .bool (i == 43 || i == 45)
def sameB : List AV → List AV → Bool
  | [], [] => true
  | .bool a :: x, .bool b :: y => (a == b) && sameB x y
  | _, _ => false
theorem sameB_eq : ∀ {x y : List AV}, sameB x y = true → x = y
  | [], [], _ => rfl
  | .bool a :: x, .bool b :: y, h => by
    simp only [sameB, Bool.and_eq_true, beq_iff_eq] at h
    rw [h.1, sameB_eq h.2]
def setOK (r : Option (AV × Heap)) : Bool := match r with | some (.tup [.agg l, .bool true], _) => sameB l set2 | _ => false
set_option maxRecDepth 1000000 in
theorem set_run : setOK (evF (GX X0) tabM 3000 59 [.str [43, 45]] []) = true := by kernel_rfl
theorem set2_flat : flat (.tup [.agg set2, .bool true]) = true := by kernel_rfl
theorem set2_len : set2.length = 256 := by simp [set2]
theorem set2_cell : set2.all isCell = true := by
  simp only [set2, List.all_map, List.all_eq_true]
  intro x _; rfl
theorem set2_cells : cellsOf (.agg set2) = set2 := by rw [cellsOf_agg]
theorem set2_at (c : UInt8) : set2[c.toNat]? = some (.bool (isS c)) := by
  have h : c.toNat < 256 := c.toNat_lt
  unfold set2
  rw [List.getElem?_map, List.getElem?_range h]
  simp only [Option.map_some, Option.some.injEq, AV.bool.injEq, isS]
  have e : ∀ k : UInt8, (c.toNat == k.toNat) = (c == k) := fun k => by
    rw [Bool.eq_iff_iff, beq_iff_eq, beq_iff_eq]
    exact ⟨fun h => UInt8.toNat_inj.1 h, fun h => by rw [h]⟩
  have e1 := e 43
  have e2 := e 45
  rw [← e1, ← e2]
  rfl

theorem pSet (M : Addr → Option AV) (hM : ∀ a v, tabM a = some v → M a = some v) (H : Heap) : SemF Tryd.prog M 59 [.str [43, 45]] H fun v h => v = .tup [.agg set2, .bool true] ∧ h = H := by
  have h := set_run
  unfold setOK at h
  split at h
  · rename_i l H' hr
    have hv := sameB_eq h
    subst hv
    exact SemF.pure rfl (SemF.weaken hM (((ev_ok (GX_ok (X0_ok tabM)) 3000).2 59 [.str [43, 45]] [] _ _ hr).mono fun v' h ⟨h1, _⟩ => ⟨by rw [h1]; exact set2_flat, h1⟩)) H
  · cases h

theorem pHas (M : Addr → Option AV) {H : Heap} {b : Nat} (h0 : H[b]? = some (.c set2 86 0 0)) (c : UInt8) :
    SemF Tryd.prog M 60 [.ptr b 0 0, .int .u8 (c.toNat : Int)] H fun v h => v = .bool (isS c) ∧ h = H := by
  refine fw Tryd.func60 (by kernel_rfl) rfl (by kernel_rfl) fun C L T hT hS => ?_
  have hc : c.toNat < 256 := c.toNat_lt
  have hl := set2_len
  have ha := set2_at c
  have hlt : c.toNat < set2.length := by omega
  have hi : ((c.toNat : Int)).toNat = c.toNat := Int.toNat_natCast _
  have c1 : (0 : Int) ≤ (c.toNat : Int) ∧ (c.toNat : Int) < 256 := by omega
  have hld : loadA T M H 4 (.ptr b 0 c.toNat) = some (.bool (isS c)) := (Sees.own (M := M) b 0 0 256 none set2 86 0 0 set2 h0 (Nat.le_refl _) (by omega) (by rw [List.drop_zero, Nat.mul_one, ← hl, List.take_length])).load (el := 4) (n := c.toNat) ha hT.ty4 rfl |> fun h => by
    simpa only [placeA, Nat.zero_add, Nat.mul_one] using h
  simp only [gX,gT,gM,gL,gB,wantedA,evOp,opv,absC,absC0,isAggT,resA,resultA,binA,eqA,eqGuardA,isConstA,isFlatScalar,shiftOp,strOp,ordB,readN,sliceCells,lenA,storeA,newA,buildA,fillA,buildSliceA,boundsA,bndA,sliceA,ptrOK,fieldAddrA,fieldA,indexA,extractA,convA,isIntT,biA,bytesOf,setAll,List.replicate,Nat.reduceAdd,Nat.reduceSub,Nat.reduceMul,Nat.reduceLT,Nat.reduceLeDiff,Nat.reduceEqDiff,Int.reduceEq,Int.reduceLT,Int.reduceLE,Int.reduceNe,Int.reduceAdd,Nat.reduceBEq,reduceCtorEq,lenB_nil,lenB_slice,lenB_oslice,lenB_str,lenB_agg,indexAddrA_slice,indexAddrA_oslice,indexAddrA_ptr,indexAddrA_optr,loadA_ptr,loadA_optr,lenK,indexK,loadK,Int.reduceBEq,Int.reduceBNe,Int.reduceMod,Int.reduceDiv,Int.reduceTDiv,Int.reduceTMod,Int.reduceFDiv,Int.reduceSub,Int.reduceNeg,Int.reduceGT,Int.reduceGE,BitVec.reduceOfInt,BitVec.reduceAnd,BitVec.reduceOr,BitVec.reduceXOr,BitVec.reduceToNat,Int.reduceToNat,Int.reducePow,Int.reduceMul,hT.all,Tryd.f60,h0,c1,hi,hlt,hld]

theorem alloc_set {T : Tab} (hT : Ty T) : ∃ zs : List AV, zs.length = 256 ∧ ∀ (M : Addr → Option AV) (f : Operand → AV) (H : Heap), evOp T M (.alloc 86) f H = some (.ptr H.length 0 0, H ++ [.c zs 86 0 0]) := by
  obtain ⟨i, h1, h2, h3, h4⟩ : ∃ i : TI, T 86 = some i ∧ (cellsOf (absC i.zero)).length = 256 ∧ (cellsOf (absC i.zero)).all isCell = true ∧ i.size = 256 := ⟨_, hT.ty86, by kernel_rfl, by kernel_rfl, rfl⟩
  refine ⟨cellsOf (absC i.zero), h2, fun M f H => ?_⟩
  simp only [evOp, h1, newA, h2, h3]
  simp

theorem store_set {T : Tab} (hT : Ty T) {H : Heap} {b : Nat} {zs : List AV} (h0 : H[b]? = some (.c zs 86 0 0)) (hz : zs.length = 256) : storeA T H 86 (.ptr b 0 0) (.agg set2) = some (H.set b (.c set2 86 0 0)) := by
  obtain ⟨i, h1, h4⟩ : ∃ i : TI, T 86 = some i ∧ i.size = 256 := ⟨_, hT.ty86, rfl⟩
  have hl := set2_len
  have hg : (0 : Nat) = 0 ∧ (cellsOf (.agg set2)).length = i.size ∧ 0 + (cellsOf (.agg set2)).length ≤ zs.length ∧ (cellsOf (.agg set2)).all isCell = true := by
    rw [set2_cells, hl, h4, hz]
    exact ⟨rfl, rfl, by omega, set2_cell⟩
  have hs : setAll zs 0 set2 = set2 := by
    refine List.ext_getElem? fun j => ?_
    rw [setAll_get]
    by_cases hj : j < 256
    · rw [if_pos ⟨by omega, by omega, by omega⟩, Nat.sub_zero]
    · rw [if_neg (by omega), List.getElem?_eq_none (by omega), List.getElem?_eq_none (by omega)]
  simp only [storeA, h1, h0]
  rw [if_pos ⟨trivial, hg.2⟩, set2_cells, hs]

/-! ### The last sign -/

/-- The last sign stands at n, ASCII behind it. -/
def Spl (s : List UInt8) (n : Nat) : Prop := (∃ c, s[n]? = some c ∧ isS c = true) ∧ ∀ m x, n < m → s[m]? = some x → x.toNat < 128 ∧ isS x = false
def LQ (s : List UInt8) (k : Int) : Prop := -1 ≤ k ∧ k < s.length ∧ ∀ n, Spl s n → k = n

theorem isS_ascii {c : UInt8} (h : isS c = true) : c.toNat < 128 := by
  unfold isS at h
  rw [Bool.or_eq_true, beq_iff_eq, beq_iff_eq] at h
  rcases h with rfl | rfl <;> decide
theorem Spl.down {s : List UInt8} {n k : Nat} {c : UInt8} (h : Spl s n) (hk : n < k + 1) (hc : s[k]? = some c) : (n = k ∧ isS c = true) ∨ (n < k ∧ c.toNat < 128 ∧ isS c = false) := by
  obtain ⟨⟨x, h1, h2⟩, h3⟩ := h
  rcases Nat.lt_or_ge n k with q | q
  · exact .inr ⟨q, h3 k c q hc⟩
  · obtain rfl : n = k := by omega
    rw [h1] at hc
    injection hc with hc
    exact .inl ⟨rfl, by rw [← hc]; exact h2⟩

theorem last_ok {s : List UInt8} (h : s ≠ []) {c : UInt8} (hc : s[s.length - 1]? = some c) : (c.toNat < 128 → Lib.decodeLastL s = (c.toNat, 1)) ∧ (128 ≤ c.toNat → 1 ≤ (Lib.decodeLastL s).2 ∧ (Lib.decodeLastL s).2 ≤ s.length) := by
  have hl : 0 < s.length := List.length_pos_iff.2 h
  have hg : s.getD (s.length - 1) 0 = c := by rw [List.getD_eq_getElem?_getD, hc]; rfl
  unfold Lib.decodeLastL
  rw [if_neg h, hg]
  constructor
  · intro h1; rw [if_pos h1]
  · intro h1
    rw [if_neg (by omega)]
    simp only
    split
    · rename_i e
      have h2 : Lib.lastStart s < s.length := by
        unfold Lib.lastStart
        simp only
        repeat' split
        all_goals omega
      omega
    · simp only; omega

/-- IndexRune of whatever rune: told or not. -/
theorem pRune (M : Addr → Option AV) (hM : ∀ a v, tabM a = some v → M a = some v) (n : Nat) : ∃ k : Int, (∀ H, SemF Tryd.prog M 57 [.str [43, 45], .int .i32 (n : Int)] H fun v h => v = .int .i64 k ∧ h = H) ∧ -1 ≤ k ∧ ∀ c : UInt8, c.toNat = n → c.toNat < 128 → (decide (k ≥ 0) = isS c) := by
  by_cases h : n < 128
  · have hc : (UInt8.ofNat n).toNat = n := by rw [UInt8.toNat_ofNat']; omega
    refine ⟨byteAt [43, 45] (UInt8.ofNat n), fun H => ?_, ?_, ?_⟩
    · have := pRuneA M H (UInt8.ofNat n) (by omega)
      rw [hc] at this
      exact this
    · rw [byteAt_pm]; split
      · omega
      · split <;> omega
    · rintro c rfl _
      have e : UInt8.ofNat c.toNat = c := by simp
      rw [e, byteAt_pm]
      unfold isS
      by_cases h1 : c = 43
      · subst h1; rfl
      · rw [if_neg h1]
        by_cases h2 : c = 45
        · subst h2; rfl
        · rw [if_neg h2]
          simp [h1, h2]
  · exact ⟨-1, fun H => pRuneN M hM H n (by omega), by omega, fun c hc h2 => by omega⟩

end Go.Proofs.YtaaecodkdgkjoaaDoor.B
