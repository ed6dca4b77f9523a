/- Part of a claim: Pauli strings: the law of products through gates. -/
import Derived.Test.YtecfmnldanahiaaDoorP25
import Derived.Test.YtecfmnldanahiaaDoorP7
import Derived.Test.YtecfmnldanahiaaDoorG3
set_option linter.unusedSimpArgs false
set_option linter.unusedVariables false
namespace Go.Proofs.YtecfmnldanahiaaDoor.B
open Go Go.RowKit Go.Proofs.YtecfmnldanahiaaDoor.E Go.Proofs.YtecfmnldanahiaaDoor.PC

set_option maxRecDepth 1000000 in
theorem inv_run : ((List.range 17).all fun i => isI (evF (GX X0) tabM 3000 17 [.int .i64 ((i + 1 : Nat) : Int)] []) (invK (i + 1))) = true := by kernel_rfl
theorem pGInv (M : Addr → Option AV) (hM : ∀ a v, tabM a = some v → M a = some v) (H : Heap) {k : Nat} (h1 : 1 ≤ k) (h2 : k ≤ 17) : SemF Tryd.prog M 17 [.int .i64 (k : Int)] H fun v h => v = .int .i64 (invK k : Nat) ∧ h = H := by
  have := List.all_eq_true.1 inv_run (k - 1) (List.mem_range.2 (by omega))
  simp only [show k - 1 + 1 = k by omega] at this
  exact closedI M hM H rfl this

theorem good_pl {k : Nat} {n : Nat} {qs : List Int} (hQ : okQ k qs n = true) (hn : n ≤ 64) : ∃ ns : List Nat, qs = ns.map (fun q : Nat => (q : Int)) ∧ Pl k ns ∧ ∀ q ∈ ns, q < n := by
  unfold okQ at hQ
  rw [Bool.and_eq_true, beq_iff_eq] at hQ
  obtain ⟨ns, hns, hsm⟩ := good_nat _ _ hQ.2
  have hlt : ∀ q ∈ ns, q < n := fun q hq => by have := hsm q hq; omega
  refine ⟨ns, hns, ⟨by rw [← hQ.1, hns, List.length_map], ?_, fun q hq => by have := hlt q hq; omega⟩, hlt⟩
  have key : ∀ (r pre : List Int), goodB n pre r = true → r.Nodup ∧ ∀ q ∈ r, q ∉ pre := by
    intro r
    induction r with
    | nil => intro pre _; exact ⟨List.nodup_nil, fun q hq => by cases hq⟩
    | cons a r ih =>
      intro pre h
      unfold goodB at h
      simp only [Bool.and_eq_true, Bool.not_eq_true', decide_eq_true_eq] at h
      obtain ⟨i1, i2⟩ := ih _ h.2
      have ha : a ∉ pre := fun hm => by
        have := List.contains_iff_mem.2 hm
        rw [h.1.2] at this; cases this
      refine ⟨List.nodup_cons.2 ⟨fun hm => i2 a hm (List.mem_append_right _ (List.mem_singleton.2 rfl)), i1⟩, fun q hq => ?_⟩
      rcases List.mem_cons.1 hq with rfl | hq
      · exact ha
      · exact fun hm => i2 q hq (List.mem_append_left _ hm)
  have hnd := (key qs [] hQ.2).1
  rw [hns] at hnd
  exact (List.pairwise_map.1 hnd).imp fun h e => h (by rw [e])

theorem thA_ok {m k x z f : Nat} {qs : List Int} {ns : List Nat} (hR : Rt m x z f) (h1 : 1 ≤ k) (h2 : k ≤ 17) (hQ : okQ k qs m = true) (hns : qs = ns.map (fun q : Nat => (q : Int))) :
    thA m x z f k qs = .tup [pl m (outT k x z f ns ns.length).1 (outT k x z f ns ns.length).2.1 (outT k x z f ns ns.length).2.2, .int .i64 0] := by
  have hmap : qs.map Int.toNat = ns := by rw [hns, List.map_map]; exact List.map_id'' (fun q => Int.toNat_natCast q) ns
  have hlq : qs.length = ns.length := by rw [hns, List.length_map]
  unfold thA
  rw [if_pos ⟨hR, by omega, by rw [Int.toNat_natCast]; exact hQ⟩, Int.toNat_natCast, Int.toNat_natCast, hmap, hlq]

/-! ### The drawn region -/

def pre10 : List Oper := [
  { dst := some 85, op := Op.load 24 (Operand.tmp 9), type := 24, pos := "law.go:138", after := #[], guard := none },
  { dst := some 86, op := Op.move (Operand.tmp 2), type := 25, pos := "law.go:138", after := #[], guard := none },
  { dst := some 87, op := Op.call { callee := Callee.value (Operand.func 17), args := #[Operand.tmp 86], argTypes := #[25] }, type := 25, pos := "law.go:138", after := #[{ on := 1, ground := Ground.data }], guard := none },
  { dst := some 88, op := Op.move (Operand.tmp 3), type := 26, pos := "law.go:138", after := #[], guard := none },
  { dst := some 89, op := Op.call { callee := Callee.value (Operand.func 8), args := #[Operand.tmp 85, Operand.tmp 87, Operand.tmp 88], argTypes := #[24, 25, 26] }, type := 28, pos := "law.go:138", after := #[{ on := 0, ground := Ground.data }, { on := 2, ground := Ground.data }, { on := 3, ground := Ground.data }, { on := 2, ground := Ground.chain }], guard := none },
  { dst := some 84, op := Op.move (Operand.tmp 89), type := 28, pos := "law.go:138", after := #[{ on := 4, ground := Ground.data }], guard := none },
  { dst := some 90, op := Op.extract (Operand.tmp 84) 0, type := 24, pos := "law.go:138", after := #[{ on := 5, ground := Ground.data }], guard := none },
  { dst := some 91, op := Op.extract (Operand.tmp 84) 1, type := 27, pos := "law.go:138", after := #[{ on := 5, ground := Ground.data }, { on := 9, ground := Ground.gcOnly Departure.lateStores }], guard := none }]
def al10 : Oper := { dst := some 23, op := Op.alloc 24, type := 0, pos := "law.go:138", after := #[], guard := none }
def post10 : List Oper := [
  { dst := none, op := Op.store 24 (Operand.tmp 23) (Operand.tmp 90), type := 0, pos := "law.go:138", after := #[{ on := 8, ground := Ground.data }, { on := 6, ground := Ground.data }, { on := 4, ground := Ground.chain }, { on := 0, ground := Ground.phase }, { on := 1, ground := Ground.phase }, { on := 2, ground := Ground.phase }, { on := 3, ground := Ground.phase }, { on := 4, ground := Ground.phase }, { on := 5, ground := Ground.phase }, { on := 6, ground := Ground.phase }, { on := 7, ground := Ground.textOnly Departure.lateStores }, { on := 8, ground := Ground.phase }], guard := none },
  { dst := some 24, op := Op.assign (Operand.tmp 91), type := 27, pos := "law.go:138", after := #[{ on := 7, ground := Ground.data }, { on := 9, ground := Ground.chain }, { on := 0, ground := Ground.phase }, { on := 1, ground := Ground.phase }, { on := 2, ground := Ground.phase }, { on := 3, ground := Ground.phase }, { on := 4, ground := Ground.phase }, { on := 5, ground := Ground.phase }, { on := 6, ground := Ground.phase }, { on := 7, ground := Ground.phase }, { on := 8, ground := Ground.phase }, { on := 9, ground := Ground.phase }], guard := none }]
def ops10 : Array Oper := (pre10 ++ al10 :: post10).toArray
theorem code10 : sufC 9 (codeOf Tryd.f5) = .seq (.region 10 ops10 true) (sufC 10 (codeOf Tryd.f5)) := by kernel_rfl
theorem list10 : ops10.toList = pre10 ++ al10 :: post10 := by kernel_rfl
theorem reg10 : regA allQ T ops10 pre10.length = true := by kernel_rfl

theorem opv_set {env : List AV} {i j : Nat} {x : AV} (hi : i < env.length) : opv (env.set i x) (.tmp j) = if i = j then x else opv env (.tmp j) := by
  simp only [opv, List.getD_eq_getElem?_getD, List.getElem?_set]
  by_cases e : i = j
  · subst e; simp [hi]
  · simp [e]

/-- The slots behind it. -/
def env10 (env : List AV) (X K K' v R R0 R1 : AV) : List AV := (((((((env.set 85 X).set 86 K).set 87 K').set 88 v).set 89 R).set 84 R).set 90 R0).set 91 R1

theorem run10 {T' : Tab} (hT : Ty T') {M : Addr → Option AV} {env : List AV} {H : Heap} {v : AV} {b : Nat} {k ki : Int} {x y : List AV} {e : Int} (hlen : env.length = 120) (h9 : opv env (.tmp 9) = .ptr b 0 0) (hb : H[b]? = some (.c x 24 0 0)) (hx : x.length = 4) (hy : y.length = 4) (hyc : y.all isCell = true) (h2 : opv env (.tmp 2) = .int .i64 k) (h3 : opv env (.tmp 3) = v)
    (c1 : ∀ G, SemF Tryd.prog M 17 [.int .i64 k] G fun v' h' => v' = .int .i64 ki ∧ h' = G) (c2 : ∀ G, SemF Tryd.prog M 8 [.agg x, .int .i64 ki, v] G fun v' h' => v' = .tup [.agg y, .int .i64 e] ∧ h' = G) :
    RunP allQ Tryd.prog T' M ops10 H (.c [.int .i64 0, .int .u64 0, .int .u64 0, .int .i64 0] 24 0 0) pre10 env (fun e1 => StepG allQ Tryd.prog T' M ops10 al10 e1 H (.ptr H.length 0 0) (H ++ [.c [.int .i64 0, .int .u64 0, .int .u64 0, .int .i64 0] 24 0 0]) ∧
      RunD allQ Tryd.prog T' M ops10 post10 (putA e1 al10.dst (.ptr H.length 0 0)) (H ++ [.c [.int .i64 0, .int .u64 0, .int .u64 0, .int .i64 0] 24 0 0]) (((env10 env (.agg x) (.int .i64 k) (.int .i64 ki) v (.tup [.agg y, .int .i64 e]) (.agg y) (.int .i64 e)).set 23 (.ptr H.length 0 0)).set 24 (.int .i64 e)) (H ++ [.c y 24 0 0])) := by
  have hbl := lt_of_get hb
  have hld : ∀ G : Heap, G[b]? = some (.c x 24 0 0) → loadA T' M G 24 (.ptr b 0 0) = some (.agg x) := fun G hG => by
    have ht : List.take 4 x = x := List.take_of_length_le (by omega)
    simp [loadA, readN, hG, hT.ty24, isAggT, hx, ht]
  have hb2 : ∀ B : HB, (H ++ [B])[b]? = some (.c x 24 0 0) := fun B => by rw [List.getElem?_append_left hbl]; exact hb
  unfold pre10
  refine RunP.step (v := .agg x) rfl rfl (by simp [heapKind0]) (by simp only [evOp, h9, hld H hb, Option.map_some]) (by simp only [evOp, h9, hld _ (hb2 _), Option.map_some]) ?_
  refine RunP.step (v := .int .i64 k) rfl rfl (by simp [heapKind0]) ?_ ?_ ?_
  · simp only [evOp, putA]; rw [opv_set (by omega), if_neg (by decide), h2]
  · simp only [evOp, putA]; rw [opv_set (by omega), if_neg (by decide), h2]
  refine RunP.call (v := .int .i64 ki) (k := 17) (args := [.tmp 86]) rfl rfl rfl (fun G => ?_) ?_
  · simp only [putA, List.map_cons, List.map_nil]; rw [opv_set (by simp; omega), if_pos rfl]; exact c1 G
  refine RunP.step (v := v) rfl rfl (by simp [heapKind0]) ?_ ?_ ?_
  · simp only [evOp, putA]; rw [opv_set (by simp; omega), if_neg (by decide), opv_set (by simp; omega), if_neg (by decide), opv_set (by omega), if_neg (by decide), h3]
  · simp only [evOp, putA]; rw [opv_set (by simp; omega), if_neg (by decide), opv_set (by simp; omega), if_neg (by decide), opv_set (by omega), if_neg (by decide), h3]
  refine RunP.call (v := .tup [.agg y, .int .i64 e]) (k := 8) (args := [.tmp 85, .tmp 87, .tmp 88]) rfl rfl rfl (fun G => ?_) ?_
  · simp only [putA, List.map_cons, List.map_nil]
    rw [opv_set (j := 85) (by simp; omega), if_neg (by decide), opv_set (j := 85) (by simp; omega), if_neg (by decide), opv_set (j := 85) (by simp; omega), if_neg (by decide), opv_set (j := 85) (by omega), if_pos rfl]
    rw [opv_set (j := 87) (by simp; omega), if_neg (by decide), opv_set (j := 87) (by simp; omega), if_pos rfl]
    rw [opv_set (j := 88) (by simp; omega), if_pos rfl]
    exact c2 G
  refine RunP.step (v := .tup [.agg y, .int .i64 e]) rfl rfl (by simp [heapKind0]) ?_ ?_ ?_
  · simp only [evOp, putA]; rw [opv_set (by simp; omega), if_pos rfl]
  · simp only [evOp, putA]; rw [opv_set (by simp; omega), if_pos rfl]
  refine RunP.step (v := .agg y) rfl rfl (by simp [heapKind0]) ?_ ?_ ?_
  · simp only [evOp, putA]; rw [opv_set (by simp; omega), if_pos rfl]; rfl
  · simp only [evOp, putA]; rw [opv_set (by simp; omega), if_pos rfl]; rfl
  refine RunP.step (v := .int .i64 e) rfl rfl (by simp [heapKind0]) ?_ ?_ ?_
  · simp only [evOp, putA]; rw [opv_set (by simp; omega), if_neg (by decide), opv_set (by simp; omega), if_pos rfl]; rfl
  · simp only [evOp, putA]; rw [opv_set (by simp; omega), if_neg (by decide), opv_set (by simp; omega), if_pos rfl]; rfl
  refine ⟨.inl ⟨rfl, ?_⟩, ?_⟩
  · unfold StepD
    simp [al10, callOf, evOp, hT.ty24, newA, cellsOf, absC, absC0, isCell]
  unfold post10
  refine RunD.step (v := .tup []) (H1 := H ++ [.c y 24 0 0]) rfl rfl ?_ ?_
  · simp only [evOp, putA, al10]
    rw [opv_set (j := 23) (by simp; omega), if_pos rfl]
    rw [opv_set (j := 90) (by simp; omega), if_neg (by decide), opv_set (j := 90) (by simp; omega), if_neg (by decide), opv_set (j := 90) (by simp; omega), if_pos rfl]
    have hs : setAll [.int .i64 0, .int .u64 0, .int .u64 0, .int .i64 0] 0 y = y := by
      match y, hy with
      | [y0, y1, y2, y3], _ => rfl
    simp [storeA, hT.ty24, hp_get0, hp_set0, cellsOf, hy, hs]
    simpa using hyc
  refine RunD.step (v := .int .i64 e) rfl rfl ?_ ⟨?_, rfl⟩
  · simp only [evOp, putA, al10]
    rw [opv_set (by simp; omega), if_neg (by decide), opv_set (by simp; omega), if_pos rfl]
  · rfl

end Go.Proofs.YtecfmnldanahiaaDoor.B
