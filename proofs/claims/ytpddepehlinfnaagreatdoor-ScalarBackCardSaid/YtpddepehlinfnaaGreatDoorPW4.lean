/- Part of a claim: a world in which the library's variables hold what the rows list, written out block by block: its shape, and that the listed variables read so. (Printed by gen_wit.py.) -/
import Derived.Test.YtpddepehlinfnaaGreatDoorPQ1
import Derived.Test.YtpddepehlinfnaaGreatDoorPG1
import Derived.Deep.DeepHandedRow
set_option linter.unusedSimpArgs false
set_option linter.unusedVariables false
namespace Go.Proofs.YtpddepehlinfnaaGreatDoor.B
open Go Go.RowKit Go.Proofs.YtpddepehlinfnaaGreatDoor.E
set_option maxRecDepth 100000

def blk (t : TypeId) (l : List Value) : Obj := .cells l.toArray t (0, 0)
def ik (k : IntKind) (l : List Int) : List Value := l.map (.int k)
noncomputable def cheatCells : List Value := Go.Pinned.cheatRows.flatMap fun x => [.int .i64 x.1, .string ⟨⟨x.2⟩⟩]
noncomputable def startL : List Obj := [.cells ((Array.range Tryz.prog.types.size).map fun t => .int .u64 (Int.ofNat t)) 0, .map #[] 0, .finalizers #[] none, .cells #[.bool false] 0, .finalizers #[] none]
noncomputable def c0 : List Value := [.bool false]
noncomputable def c1 : List Value := ik .u8 [0, 1, 56, 2, 57, 49, 28, 3, 61, 58, 42, 50, 38, 29, 17, 4, 62, 47, 59, 36, 45, 43, 51, 22, 53, 39, 33, 30, 24, 18, 12, 5, 63, 55, 48, 27, 60, 41, 37, 16, 46, 35, 44, 21, 52, 32, 23, 11, 54, 26, 40, 15, 34, 20, 31, 10, 25, 14, 19, 9, 13, 8, 7, 6]
noncomputable def c2 : List Value := [.bool true]
noncomputable def c3 : List Value := [.int .i64 0]
noncomputable def c4 : List Value := [.iface 166 (.pointer (some ⟨24, 0, none⟩))]
noncomputable def c5 : List Value := [.iface 166 (.pointer (some ⟨23, 0, none⟩))]
noncomputable def c6 : List Value := ik .u64 [1, 10, 100, 1000, 10000, 100000, 1000000, 10000000, 100000000, 1000000000, 10000000000, 100000000000, 1000000000000, 10000000000000, 100000000000000, 1000000000000000, 10000000000000000, 100000000000000000, 1000000000000000000, 10000000000000000000]
noncomputable def c7 : List Value := [.int .u64 23, .int .u64 8, .int .i64 (-127)]
noncomputable def c8 : List Value := [.int .u64 52, .int .u64 11, .int .i64 (-1023)]
noncomputable def c9 : List Value := powCells
noncomputable def c10 : List Value := [.slice (some ⟨25, 0, none⟩) 61 61]
noncomputable def c11 : List Value := [.slice (some ⟨22, 0, none⟩) 11 11]
noncomputable def c12 : List Value := [.slice (some ⟨20, 0, none⟩) 9 9]
noncomputable def c13 : List Value := [.slice (some ⟨21, 0, none⟩) 23 23]
noncomputable def c14 : List Value := ik .u8 [0, 1, 28, 2, 29, 14, 24, 3, 30, 22, 20, 15, 25, 17, 4, 8, 31, 27, 13, 23, 21, 19, 16, 7, 26, 12, 18, 6, 11, 5, 10, 9]
noncomputable def c20 : List Value := (ik .i64 [1, 3, 6, 9, 13, 16, 19, 23, 26])
noncomputable def c21 : List Value := [.float .f64 4607182418800017408, .float .f64 4621819117588971520, .float .f64 4636737291354636288, .float .f64 4652007308841189376, .float .f64 4666723172467343360, .float .f64 4681608360884174848, .float .f64 4696837146684686336, .float .f64 4711630319722168320, .float .f64 4726483295884279808, .float .f64 4741671816366391296, .float .f64 4756540486875873280, .float .f64 4771362005757984768, .float .f64 4786511204640096256, .float .f64 4801453603149578240, .float .f64 4816244402031689728, .float .f64 4831355200913801216, .float .f64 4846369599423283200, .float .f64 4861130398305394688, .float .f64 4876203697187506176, .float .f64 4891288408196988160, .float .f64 4906019910204099648, .float .f64 4921056587992461136, .float .f64 4936209963552724370]
noncomputable def c22 : List Value := [.float .f32 1065353216, .float .f32 1092616192, .float .f32 1120403456, .float .f32 1148846080, .float .f32 1176256512, .float .f32 1203982336, .float .f32 1232348160, .float .f32 1259902592, .float .f32 1287568416, .float .f32 1315859240, .float .f32 1343554297]
noncomputable def c23 : List Value := [.string ⟨⟨[118, 97, 108, 117, 101, 32, 111, 117, 116, 32, 111, 102, 32, 114, 97, 110, 103, 101]⟩⟩]
noncomputable def c24 : List Value := [.string ⟨⟨[105, 110, 118, 97, 108, 105, 100, 32, 115, 121, 110, 116, 97, 120]⟩⟩]
noncomputable def c25 : List Value := cheatCells
noncomputable def varsL : List Obj := [blk 4 c0, blk 97 c1, blk 4 c2, blk 3 c3, blk 87 c4, blk 87 c5, blk 158 c6, blk 179 c7, blk 179 c8, blk 193 c9, blk 199 c10, blk 202 c11, blk 94 c12, blk 24 c13, blk 120 c14]
noncomputable def restL : List Obj := [blk 3 c20, blk 26 c21, blk 103 c22, blk 168 c23, blk 168 c24, blk 198 c25]
noncomputable def heapL : List Obj := varsL ++ (startL ++ restL)
noncomputable def laidWorld (os : Os) : World := { World.holding Tryz.prog os ⟨#[], #[], []⟩ with heap := heapL.toArray }
noncomputable def wm : World := { heap := heapL.toArray, tape := fun _ _ => 0, drawn := 0, os := default, output := #[] }

theorem call_heap (os : Os) (args : Array Value) : ((laidWorld os).forCall (fun _ _ => 0) ⟨#[], args, []⟩).heap = heapL.toArray := by
  simp only [World.forCall, laidWorld, Input.heap, List.foldl_nil, Array.append_empty]
theorem call_memory (os : Os) (args : Array Value) : ((laidWorld os).forCall (fun _ _ => 0) ⟨#[], args, []⟩).memory = wm := by
  unfold World.memory wm
  rw [call_heap]

/-! ### What is listed -/

theorem laid_cons {P : Program} {w : World} {n : String} {d : DataW Unit} {r : List (String × DataW Unit)} {q p : List MemPlace} {g : Nat} {t : TypeId} {cs : Array Value} (sz fuel : Nat) (hz : cs.size = sz) (h1 : P.globalNamed n = some g) (h2 : (P.globals[g]?).map (·.type) = some t)
    (h3 : w.var? P n = some cs) (h4 : DataW.trod (fun _ => ()) P w 0 (fun _ => true) false fuel t cs.toList = some (d, p)) (h5 : DataW.LaidVars P w r q) : DataW.LaidVars P w ((n, d) :: r) (MemPlace.row ⟨g, 0, none⟩ sz ++ p ++ q) :=
  ⟨g, t, cs, fuel, p, q, h1, h2, h3, h4, h5, by rw [hz]⟩
theorem laid_nil {P : Program} {w : World} : DataW.LaidVars P w [] [] := rfl

def BS : List (Nat × Nat) := [(14, 32), (1, 64), (7, 3), (8, 3), (2, 1), (12, 1), (20, 9), (13, 1), (21, 23), (11, 1), (22, 11), (6, 20), (5, 1), (23, 1), (4, 1), (24, 1), (10, 1), (25, 122), (9, 1392)]
def places : List MemPlace := BS.flatMap fun x => MemPlace.row ⟨x.1, 0, none⟩ x.2

theorem nodup_rows : ∀ {l : List (Nat × Nat)}, (l.map (·.1)).Nodup → (l.flatMap fun x => MemPlace.row ⟨x.1, 0, none⟩ x.2).Nodup
  | [], _ => List.nodup_nil
  | x :: l, h => by
    rw [List.map_cons, List.nodup_cons] at h
    rw [List.flatMap_cons, List.nodup_append]
    refine ⟨?_, nodup_rows h.2, ?_⟩
    · unfold MemPlace.row
      refine List.Pairwise.map _ ?_ List.nodup_range
      intro a b hab e
      injection e with e1 e2
      exact hab (by omega)
    · intro a ha b hb e
      subst e
      unfold MemPlace.row at ha
      obtain ⟨i, _, rfl⟩ := List.mem_map.1 ha
      obtain ⟨y, hy, hyb⟩ := List.mem_flatMap.1 hb
      unfold MemPlace.row at hyb
      obtain ⟨j, _, e⟩ := List.mem_map.1 hyb
      injection e with e1 e2
      exact h.1 (List.mem_map.2 ⟨y, hy, e1⟩)

theorem v0 : wm.var? Tryz.prog "math/bits.deBruijn32tab" = some (List.toArray c14) := by kernel_rfl
theorem r0 : DataW.trod (fun _ => ()) Tryz.prog wm 0 (fun _ => true) false 8 120 (List.toArray c14).toList = some (Rows.laid_math_bits_deBruijn32tab, []) := by kernel_rfl
theorem v1 : wm.var? Tryz.prog "math/bits.deBruijn64tab" = some (List.toArray c1) := by kernel_rfl
theorem r1 : DataW.trod (fun _ => ()) Tryz.prog wm 0 (fun _ => true) false 8 97 (List.toArray c1).toList = some (Rows.laid_math_bits_deBruijn64tab, []) := by kernel_rfl
theorem v2 : wm.var? Tryz.prog "internal/strconv.float32info" = some (List.toArray c7) := by kernel_rfl
theorem r2 : DataW.trod (fun _ => ()) Tryz.prog wm 0 (fun _ => true) false 8 179 (List.toArray c7).toList = some (Rows.laid_internal_strconv_float32info, []) := by kernel_rfl
theorem v3 : wm.var? Tryz.prog "internal/strconv.float64info" = some (List.toArray c8) := by kernel_rfl
theorem r3 : DataW.trod (fun _ => ()) Tryz.prog wm 0 (fun _ => true) false 8 179 (List.toArray c8).toList = some (Rows.laid_internal_strconv_float64info, []) := by kernel_rfl
theorem v4 : wm.var? Tryz.prog "internal/strconv.optimize" = some (List.toArray c2) := by kernel_rfl
theorem r4 : DataW.trod (fun _ => ()) Tryz.prog wm 0 (fun _ => true) false 8 4 (List.toArray c2).toList = some (Rows.laid_internal_strconv_optimize, []) := by kernel_rfl
theorem v5 : wm.var? Tryz.prog "internal/strconv.powtab" = some (List.toArray c12) := by kernel_rfl
theorem r5 : DataW.trod (fun _ => ()) Tryz.prog wm 0 (fun _ => true) false 8 94 (List.toArray c12).toList = some (Rows.laid_internal_strconv_powtab, MemPlace.row ⟨20, 0, none⟩ 9) := by kernel_rfl
theorem v6 : wm.var? Tryz.prog "internal/strconv.float64pow10" = some (List.toArray c13) := by kernel_rfl
theorem r6 : DataW.trod (fun _ => ()) Tryz.prog wm 0 (fun _ => true) false 8 24 (List.toArray c13).toList = some (Rows.laid_internal_strconv_float64pow10, MemPlace.row ⟨21, 0, none⟩ 23) := by kernel_rfl
theorem v7 : wm.var? Tryz.prog "internal/strconv.float32pow10" = some (List.toArray c11) := by kernel_rfl
theorem r7 : DataW.trod (fun _ => ()) Tryz.prog wm 0 (fun _ => true) false 8 202 (List.toArray c11).toList = some (Rows.laid_internal_strconv_float32pow10, MemPlace.row ⟨22, 0, none⟩ 11) := by kernel_rfl
theorem v8 : wm.var? Tryz.prog "internal/strconv.uint64pow10" = some (List.toArray c6) := by kernel_rfl
theorem r8 : DataW.trod (fun _ => ()) Tryz.prog wm 0 (fun _ => true) false 8 158 (List.toArray c6).toList = some (Rows.laid_internal_strconv_uint64pow10, []) := by kernel_rfl
theorem v9 : wm.var? Tryz.prog "strconv.ErrRange" = some (List.toArray c5) := by kernel_rfl
theorem r9 : DataW.trod (fun _ => ()) Tryz.prog wm 0 (fun _ => true) false 8 87 (List.toArray c5).toList = some (Rows.laid_strconv_ErrRange, MemPlace.row ⟨23, 0, none⟩ 1) := by kernel_rfl
theorem v10 : wm.var? Tryz.prog "strconv.ErrSyntax" = some (List.toArray c4) := by kernel_rfl
theorem r10 : DataW.trod (fun _ => ()) Tryz.prog wm 0 (fun _ => true) false 8 87 (List.toArray c4).toList = some (Rows.laid_strconv_ErrSyntax, MemPlace.row ⟨24, 0, none⟩ 1) := by kernel_rfl
theorem v11 : wm.var? Tryz.prog "internal/strconv.leftcheats" = some (List.toArray c10) := by kernel_rfl
theorem r11 : DataW.trod (fun _ => ()) Tryz.prog wm 0 (fun _ => true) false 8 199 (List.toArray c10).toList = some (Rows.laid_internal_strconv_leftcheats, MemPlace.row ⟨25, 0, none⟩ 122) := by kernel_rfl
theorem v12 : wm.var? Tryz.prog "internal/strconv.pow10Tab" = some (List.toArray c9) := by kernel_rfl

theorem laid_vars : DataW.LaidVars Tryz.prog wm laidL places := by
  have h := laid_cons (P := Tryz.prog) (w := wm) (g := 14) (t := 120) (p := []) 32 8 (by kernel_rfl) (by kernel_rfl) (by kernel_rfl) v0 (r0) <| laid_cons (P := Tryz.prog) (w := wm) (g := 1) (t := 97) (p := []) 64 8 (by kernel_rfl) (by kernel_rfl) (by kernel_rfl) v1 (r1) <| laid_cons (P := Tryz.prog) (w := wm) (g := 7) (t := 179) (p := []) 3 8 (by kernel_rfl) (by kernel_rfl) (by kernel_rfl) v2 (r2) <| laid_cons (P := Tryz.prog) (w := wm) (g := 8) (t := 179) (p := []) 3 8 (by kernel_rfl) (by kernel_rfl) (by kernel_rfl) v3 (r3) <| laid_cons (P := Tryz.prog) (w := wm) (g := 2) (t := 4) (p := []) 1 8 (by kernel_rfl) (by kernel_rfl) (by kernel_rfl) v4 (r4) <| laid_cons (P := Tryz.prog) (w := wm) (g := 12) (t := 94) (p := MemPlace.row ⟨20, 0, none⟩ 9) 1 8 (by kernel_rfl) (by kernel_rfl) (by kernel_rfl) v5 (r5) <| laid_cons (P := Tryz.prog) (w := wm) (g := 13) (t := 24) (p := MemPlace.row ⟨21, 0, none⟩ 23) 1 8 (by kernel_rfl) (by kernel_rfl) (by kernel_rfl) v6 (r6) <| laid_cons (P := Tryz.prog) (w := wm) (g := 11) (t := 202) (p := MemPlace.row ⟨22, 0, none⟩ 11) 1 8 (by kernel_rfl) (by kernel_rfl) (by kernel_rfl) v7 (r7) <| laid_cons (P := Tryz.prog) (w := wm) (g := 6) (t := 158) (p := []) 20 8 (by kernel_rfl) (by kernel_rfl) (by kernel_rfl) v8 (r8) <| laid_cons (P := Tryz.prog) (w := wm) (g := 5) (t := 87) (p := MemPlace.row ⟨23, 0, none⟩ 1) 1 8 (by kernel_rfl) (by kernel_rfl) (by kernel_rfl) v9 (r9) <| laid_cons (P := Tryz.prog) (w := wm) (g := 4) (t := 87) (p := MemPlace.row ⟨24, 0, none⟩ 1) 1 8 (by kernel_rfl) (by kernel_rfl) (by kernel_rfl) v10 (r10) <| laid_cons (P := Tryz.prog) (w := wm) (g := 10) (t := 199) (p := MemPlace.row ⟨25, 0, none⟩ 122) 1 8 (by kernel_rfl) (by kernel_rfl) (by kernel_rfl) v11 (r11) <| laid_cons (P := Tryz.prog) (w := wm) (g := 9) (t := 193) (p := []) 1392 8 (by kernel_rfl) (by kernel_rfl) (by kernel_rfl) v12 (trod_pow _) <| laid_nil
  unfold places BS
  simp only [List.flatMap_cons, List.flatMap_nil, List.append_nil, List.append_assoc] at h ⊢
  exact h

theorem laid_nodup : places.Nodup := nodup_rows (by decide +kernel)

def plainCells (l : List Value) : Bool := l.all fun | .iface _ _ => false | _ => true
theorem not_iface {w : World} {b t : Nat} {l : List Value} (h : w.heap[b]? = some (blk t l)) (hp : plainCells l = true) {off u : Nat} {v : Value} : ¬ w.cell? ⟨b, off, none⟩ = some (.iface u v) := by
  intro hc
  unfold World.cell? at hc
  simp only [h, blk, Option.isSome_none, Bool.false_eq_true, if_false] at hc
  have hm : Value.iface u v ∈ l := by
    have := Array.mem_of_getElem? hc
    simpa using this
  have := List.all_eq_true.1 hp _ hm
  cases this

/-- A block all of whose cells may be read by the row's condition. -/
def Good (w : World) (b : Nat) : Prop := ∀ off, (∃ c t, w.heap[b]? = some (.cells c t (0, 0))) ∧ ∀ u v, w.cell? ⟨b, off, none⟩ = some (.iface u v) → Value.okWide Tryz.prog w .any 0 u v
theorem good_plain {w : World} {b t : Nat} {l : List Value} (h : w.heap[b]? = some (blk t l)) (hp : plainCells l = true) : Good w b :=
  fun _ => ⟨⟨l.toArray, t, h⟩, fun _ _ hc => (not_iface h hp hc).elim⟩
theorem good_iface {w : World} {b t : Nat} {x : TypeId} {y : Value} (h : w.heap[b]? = some (blk t [.iface x y])) (ho : Value.okWideB Tryz.prog w x y = true) : Good w b := by
  intro off
  refine ⟨⟨_, _, h⟩, fun u v hc => ?_⟩
  unfold World.cell? at hc
  simp only [h, blk, Option.isSome_none, Bool.false_eq_true, if_false] at hc
  have hm : Value.iface u v ∈ [Value.iface x y] := by
    have := Array.mem_of_getElem? hc
    simpa using this
  rw [List.mem_singleton] at hm
  injection hm with h1 h2
  subst h1 h2
  exact Value.okWide_of_okWideB ho

theorem g14 : Good wm 14 := good_plain (t := 120) (l := c14) (by kernel_rfl) (by kernel_rfl)
theorem g1 : Good wm 1 := good_plain (t := 97) (l := c1) (by kernel_rfl) (by kernel_rfl)
theorem g7 : Good wm 7 := good_plain (t := 179) (l := c7) (by kernel_rfl) (by kernel_rfl)
theorem g8 : Good wm 8 := good_plain (t := 179) (l := c8) (by kernel_rfl) (by kernel_rfl)
theorem g2 : Good wm 2 := good_plain (t := 4) (l := c2) (by kernel_rfl) (by kernel_rfl)
theorem g12 : Good wm 12 := good_plain (t := 94) (l := c12) (by kernel_rfl) (by kernel_rfl)
theorem g20 : Good wm 20 := good_plain (t := 3) (l := c20) (by kernel_rfl) (by kernel_rfl)
theorem g13 : Good wm 13 := good_plain (t := 24) (l := c13) (by kernel_rfl) (by kernel_rfl)
theorem g21 : Good wm 21 := good_plain (t := 26) (l := c21) (by kernel_rfl) (by kernel_rfl)
theorem g11 : Good wm 11 := good_plain (t := 202) (l := c11) (by kernel_rfl) (by kernel_rfl)
theorem g22 : Good wm 22 := good_plain (t := 103) (l := c22) (by kernel_rfl) (by kernel_rfl)
theorem g6 : Good wm 6 := good_plain (t := 158) (l := c6) (by kernel_rfl) (by kernel_rfl)
theorem g5 : Good wm 5 := good_iface (t := 87) (x := 166) (y := .pointer (some ⟨23, 0, none⟩)) (by kernel_rfl) (by kernel_rfl)
theorem g23 : Good wm 23 := good_plain (t := 168) (l := c23) (by kernel_rfl) (by kernel_rfl)
theorem g4 : Good wm 4 := good_iface (t := 87) (x := 166) (y := .pointer (some ⟨24, 0, none⟩)) (by kernel_rfl) (by kernel_rfl)
theorem g24 : Good wm 24 := good_plain (t := 168) (l := c24) (by kernel_rfl) (by kernel_rfl)
theorem g10 : Good wm 10 := good_plain (t := 199) (l := c10) (by kernel_rfl) (by kernel_rfl)
theorem g25 : Good wm 25 := good_plain (t := 198) (l := c25) (by kernel_rfl) (by kernel_rfl)
theorem g9 : Good wm 9 := good_plain (t := 193) (l := c9) (by kernel_rfl) (by kernel_rfl)
theorem goods : ∀ x ∈ BS, Good wm x.1 := by
  unfold BS
  simp only [List.forall_mem_cons]
  exact ⟨g14, g1, g7, g8, g2, g12, g20, g13, g21, g11, g22, g6, g5, g23, g4, g24, g10, g25, g9, fun _ h => by cases h⟩

theorem laid_rows (b off : Nat) (h : MemPlace.cell b off ∈ places) : (∃ c t, wm.heap[b]? = some (.cells c t (0, 0))) ∧ ∀ u v, wm.cell? ⟨b, off, none⟩ = some (.iface u v) → Value.okWide Tryz.prog wm .any 0 u v := by
  obtain ⟨x, hx, hb⟩ := List.mem_flatMap.1 h
  unfold MemPlace.row at hb
  obtain ⟨i, hi, e⟩ := List.mem_map.1 hb
  injection e with e1 e2
  have hg := goods x hx
  rw [show x.1 = b from e1] at hg
  exact hg off

theorem laid_met : laidMet Tryz.prog laidL wm := ⟨places, laid_vars, laid_nodup, laid_rows⟩

/-! ### Its shape -/

theorem shaped_of {P : Program} {w : World} (h : ∀ g, g < P.globals.size → ∃ t cs, (((begin P (fun _ _ => 0) default).world.heap[g]?).bind Obj.row?).map (fun z => (z.1.size, z.2)) = some (cs.size, t) ∧ w.heap[g]? = some (.cells cs t) ∧ (P.buildable t = true → Row.ok P w .any 0 t cs))
    (hr : (w.heap.toList.drop P.globals.size).take ((begin P (fun _ _ => 0) default).world.heap.size - P.globals.size) = (begin P (fun _ _ => 0) default).world.heap.toList.drop P.globals.size) : w.Shaped P := by
  refine ⟨fun g zero t hg hz => ?_, fun k h1 h2 => ?_⟩
  case refine_2 =>
    have := congrArg (·[k - P.globals.size]?) hr
    simp only [List.getElem?_take, List.getElem?_drop, Array.getElem?_toList] at this
    rw [if_pos (by omega), Nat.add_sub_cancel' h1] at this
    exact this
  obtain ⟨t', cs, e, hw, ho⟩ := h g hg
  rw [hz] at e
  simp only [Option.map_some, Option.some.injEq, Prod.mk.injEq] at e
  obtain ⟨e1, rfl⟩ := e
  exact ⟨cs, hw, e1.symm, ho⟩

theorem row_ints {P : Program} {w : World} {t : TypeId} {ts : List TypeId} {k : IntKind} {cs : Array Value} (n : Nat) (h : P.cellTypes P.depth t = some ts) (hn : cs.size = n * ts.length) (hts : (ts.all fun u => match P.underlying u with | some (.int k') => decide (k' = k) | _ => false) = true)
    (hcs : (cs.toList.all fun | .int k' m => decide (k' = k) && decide (k.min ≤ m ∧ m ≤ k.max) | _ => false) = true) : Row.ok P w .any 0 t cs := by
  refine ⟨ts, h, ⟨n, hn⟩, fun i v hv => ?_⟩
  have hi : i < cs.size := (Array.getElem?_eq_some_iff.1 hv).1
  have hp : 0 < ts.length := by
    rcases Nat.eq_zero_or_pos ts.length with h0 | h0
    · rw [h0, Nat.mul_zero] at hn; omega
    · exact h0
  have hlt := Nat.mod_lt i hp
  refine ⟨ts[i % ts.length], List.getElem?_eq_getElem hlt, ?_⟩
  have h0 := List.all_eq_true.1 hts _ (List.getElem_mem hlt)
  have h1 : P.underlying ts[i % ts.length] = some (.int k) := by
    split at h0
    · rename_i k' e
      obtain rfl := of_decide_eq_true h0
      exact e
    · cases h0
  have h2 := List.all_eq_true.1 hcs v (by rw [Array.mem_toList_iff]; exact Array.mem_of_getElem? hv)
  cases v <;> simp at h2
  obtain ⟨rfl, h3⟩ := h2
  simp only [Cell.ok, h1]
  exact ⟨trivial, h3⟩

theorem shaped (os : Os) (args : Array Value) : ((laidWorld os).forCall (fun _ _ => 0) ⟨#[], args, []⟩).Shaped Tryz.prog := by
  refine shaped_of (fun g hg => ?_) ?_
  · have hn : Tryz.prog.globals.size = 15 := by kernel_rfl
    rw [hn] at hg
    rw [call_heap]
    match g, hg with
    | 0, _ => exact ⟨4, List.toArray c0, by kernel_rfl, by kernel_rfl, fun _ => Row.ok_of_okRefB (by kernel_rfl)⟩
    | 1, _ => exact ⟨97, List.toArray c1, by kernel_rfl, by kernel_rfl, fun _ => Row.ok_of_okRefB (by kernel_rfl)⟩
    | 2, _ => exact ⟨4, List.toArray c2, by kernel_rfl, by kernel_rfl, fun _ => Row.ok_of_okRefB (by kernel_rfl)⟩
    | 3, _ => exact ⟨3, List.toArray c3, by kernel_rfl, by kernel_rfl, fun _ => Row.ok_of_okRefB (by kernel_rfl)⟩
    | 4, _ =>
      refine ⟨87, List.toArray c4, by kernel_rfl, by kernel_rfl, fun h => ?_⟩
      have e : Tryz.prog.buildable 87 = false := by kernel_rfl
      rw [e] at h
      cases h
    | 5, _ =>
      refine ⟨87, List.toArray c5, by kernel_rfl, by kernel_rfl, fun h => ?_⟩
      have e : Tryz.prog.buildable 87 = false := by kernel_rfl
      rw [e] at h
      cases h
    | 6, _ => exact ⟨158, List.toArray c6, by kernel_rfl, by kernel_rfl, fun _ => Row.ok_of_okRefB (by kernel_rfl)⟩
    | 7, _ => exact ⟨179, List.toArray c7, by kernel_rfl, by kernel_rfl, fun _ => Row.ok_of_okRefB (by kernel_rfl)⟩
    | 8, _ => exact ⟨179, List.toArray c8, by kernel_rfl, by kernel_rfl, fun _ => Row.ok_of_okRefB (by kernel_rfl)⟩
    | 9, _ => exact ⟨193, List.toArray c9, by kernel_rfl, by kernel_rfl, fun _ => row_ints (k := .u64) (ts := (List.replicate 696 [23, 23]).flatten) 1 (by kernel_rfl) (by kernel_rfl) (by kernel_rfl) (by kernel_rfl)⟩
    | 10, _ => exact ⟨199, List.toArray c10, by kernel_rfl, by kernel_rfl, fun _ => Row.ok_of_okRefB (by kernel_rfl)⟩
    | 11, _ => exact ⟨202, List.toArray c11, by kernel_rfl, by kernel_rfl, fun _ => Row.ok_of_okRefB (by kernel_rfl)⟩
    | 12, _ => exact ⟨94, List.toArray c12, by kernel_rfl, by kernel_rfl, fun _ => Row.ok_of_okRefB (by kernel_rfl)⟩
    | 13, _ => exact ⟨24, List.toArray c13, by kernel_rfl, by kernel_rfl, fun _ => Row.ok_of_okRefB (by kernel_rfl)⟩
    | 14, _ => exact ⟨120, List.toArray c14, by kernel_rfl, by kernel_rfl, fun _ => Row.ok_of_okRefB (by kernel_rfl)⟩
  · rw [call_heap]
    kernel_rfl

end Go.Proofs.YtpddepehlinfnaaGreatDoor.B
