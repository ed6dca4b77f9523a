/- Part of a claim: what a row's list of package-level variables says of memory; more library functions without a body. Nothing of a program stands here. -/
import Derived.Test.YtaaecodkdgkjoaaDoorPEB
import Derived.Laws.Externs
set_option linter.unusedSimpArgs false
set_option linter.unusedVariables false
namespace Go.Proofs.YtaaecodkdgkjoaaDoor.E
open Go Go.RowKit Go.ChangeShapes Go.WideShapes

/-! ### Tables -/

/-- The cells of several data, each of so many. -/
def flatL (f : DataW Unit → Option (List AV)) (sz : Nat) : List (DataW Unit) → Option (List AV)
  | [] => some []
  | d :: r =>
    match f d, flatL f sz r with
    | some a, some b => if a.length = sz then some (a ++ b) else none
    | _, _ => none

def flatS (P : Program) (f : TypeId → DataW Unit → Option (List AV)) : Nat → List Field → List (DataW Unit) → Option (List AV)
  | _, [], [] => some []
  | off, fd :: fs, d :: r =>
    match f fd.type d, flatS P f (off + P.cellsOf fd.type) fs r with
    | some a, some b => if fd.offset = off ∧ a.length = P.cellsOf fd.type then some (a ++ b) else none
    | _, _ => none
  | _, _, _ => none

def fieldsSum (P : Program) : List Field → Nat
  | [] => 0
  | f :: fs => P.cellsOf f.type + fieldsSum P fs

/-- The cells of data without pointers. -/
def flatD (P : Program) : Nat → TypeId → DataW Unit → Option (List AV)
  | 0, _, _ => none
  | n + 1, t, d =>
    match P.underlying t, d with
    | some .bool, .lit (.bool b) => some [.bool b]
    | some (.int _), .lit (.int k x) => some [.int k x]
    | some (.float _), .lit (.float k b) => some [.float k b]
    | some .string, .lit (.string s) => some [.str s]
    | some (.array m e), .agg ds => if ds.length = m ∧ P.cellsOf t = m * P.cellsOf e then flatL (flatD P n e) (P.cellsOf e) ds else none
    | some (.struct fs), .agg ds => if P.cellsOf t = fieldsSum P fs.toList then flatS P (flatD P n) 0 fs.toList ds else none
    | _, _ => none

theorem cut_map {α β : Type} (g : α → β) (cs : List α) (off sz : Nat) : (cs.drop off).map g = ((cs.drop off).take sz).map g ++ (cs.drop (off + sz)).map g := by
  rw [← List.map_append, ← List.drop_drop, List.take_append_drop]

theorem flatL_ok {f : DataW Unit → Option (List AV)} {sz : Nat} {cs : List Value} : ∀ (ds : List (DataW Unit)) (l : List AV) (off : Nat), flatL f sz ds = some l → cs.length = off + ds.length * sz →
    (∀ (i : Nat) (d : DataW Unit) (a : List AV), ds[i]? = some d → f d = some a → ((cs.drop (off + i * sz)).take sz).map absC = a) → (cs.drop off).map absC = l
  | [], l, off, h, hl, _ => by
    simp only [flatL] at h; cases h
    rw [List.drop_of_length_le (by simp at hl; omega)]; rfl
  | d :: r, l, off, h, hl, he => by
    simp only [flatL] at h
    split at h
    · rename_i a b ha hb
      split at h
      · rename_i hs
        cases h
        rw [cut_map absC cs off sz]
        congr 1
        · have := he 0 d a rfl ha
          simpa using this
        · refine flatL_ok r b (off + sz) hb (by rw [hl, List.length_cons, Nat.succ_mul]; omega) fun i d' a' hd ha' => ?_
          have := he (i + 1) d' a' (by simpa using hd) ha'
          rw [Nat.succ_mul] at this
          rw [show off + sz + i * sz = off + (i * sz + sz) by omega]
          exact this
      · cases h
    · cases h

theorem flatS_ok {P : Program} {f : TypeId → DataW Unit → Option (List AV)} {cs : List Value} : ∀ (fs : List Field) (ds : List (DataW Unit)) (l : List AV) (off : Nat), flatS P f off fs ds = some l → cs.length = off + fieldsSum P fs →
    (∀ (i : Nat) (fd : Field) (d : DataW Unit) (a : List AV), fs[i]? = some fd → ds[i]? = some d → f fd.type d = some a → ((cs.drop fd.offset).take (P.cellsOf fd.type)).map absC = a) → (cs.drop off).map absC = l
  | [], ds, l, off, h, hl, _ => by
    cases ds with
    | nil =>
      simp only [flatS] at h; cases h
      rw [List.drop_of_length_le (by simp [fieldsSum] at hl; omega)]; rfl
    | cons d r => simp [flatS] at h
  | fd :: fs, ds, l, off, h, hl, he => by
    cases ds with
    | nil => simp [flatS] at h
    | cons d r =>
      simp only [flatS] at h
      split at h
      · rename_i a b ha hb
        split at h
        · rename_i hs
          cases h
          rw [cut_map absC cs off (P.cellsOf fd.type)]
          congr 1
          · have := he 0 fd d a rfl rfl ha
            rw [hs.1] at this
            exact this
          · exact flatS_ok fs r b _ hb (by rw [hl, fieldsSum]; omega) fun i fd' d' a' hf hd ha' => he (i + 1) fd' d' a' (by simpa using hf) (by simpa using hd) ha'
        · cases h
      · cases h

theorem flatD_ok {P : Program} {W : World} {base : Nat} {sp : Nat → Bool} {held : Bool} : ∀ (n : Nat) (t : TypeId) (d : DataW Unit) (l : List AV) (fuel : Nat) (cs : List Value) (p : List MemPlace), flatD P n t d = some l →
    DataW.trod (fun _ => ()) P W base sp held fuel t cs = some (d, p) → cs.map absC = l
  | 0, _, _, _, _, _, _, h, _ => by simp [flatD] at h
  | n + 1, t, d, l, 0, cs, p, _, h => by simp [DataW.trod] at h
  | n + 1, t, d, l, fuel + 1, cs, p, hf, h => by
    simp only [flatD] at hf
    split at hf
    · rename_i ht
      cases hf
      simp only [DataW.trod, ht] at h
      split at h <;> simp_all [absC, absC0]
    · rename_i ht
      cases hf
      simp only [DataW.trod, ht] at h
      split at h <;> simp_all [absC, absC0]
    · rename_i ht
      cases hf
      simp only [DataW.trod, ht] at h
      split at h <;> simp_all [absC, absC0]
    · rename_i ht
      cases hf
      simp only [DataW.trod, ht] at h
      split at h <;> simp_all [absC, absC0]
    · rename_i m e ds ht
      split at hf
      · rename_i hc
        simp only [DataW.trod, ht] at h
        split at h
        · rename_i hl
          obtain ⟨xs, hm, hx⟩ := Option.map_eq_some_iff.1 h
          have hds : xs.map (·.1) = ds := by have := congrArg Prod.fst hx; simpa using this
          have := flatL_ok (cs := cs) ds l 0 hf (by rw [hl, hc.1, hc.2]; omega) fun i d a hd ha => by
            have hi : i < ds.length := (List.getElem?_eq_some_iff.1 hd).1
            obtain ⟨b, hb, hb2⟩ := Lib.mapM_at hm i i (by rw [List.getElem?_range (by omega)])
            have hb3 : b.1 = d := by
              rw [← hds, List.getElem?_map, hb] at hd
              simpa using hd
            obtain ⟨b1, b2⟩ := b
            subst hb3
            rw [Nat.zero_add]
            exact flatD_ok n e b1 a fuel _ _ ha hb2
          simpa using this
        · cases h
      · cases hf
    · rename_i fs ds ht
      split at hf
      · rename_i hc
        simp only [DataW.trod, ht] at h
        split at h
        · rename_i hl
          obtain ⟨xs, hm, hx⟩ := Option.map_eq_some_iff.1 h
          have hds : xs.map (·.1) = ds := by have := congrArg Prod.fst hx; simpa using this
          have := flatS_ok (P := P) (cs := cs) fs.toList ds l 0 hf (by rw [hl, hc]; omega) fun i fd d a hfd hd ha => by
            obtain ⟨b, hb, hb2⟩ := Lib.mapM_at hm i fd hfd
            have hb3 : b.1 = d := by
              rw [← hds, List.getElem?_map, hb] at hd
              simpa using hd
            obtain ⟨b1, b2⟩ := b
            subst hb3
            exact flatD_ok n fd.type b1 a fuel _ _ ha hb2
          simpa using this
        · cases h
      · cases hf
    · cases hf

theorem laidVars_mem {P : Program} {W : World} : ∀ {l : List (String × DataW Unit)} {ps : List MemPlace}, DataW.LaidVars P W l ps → ∀ (i : Nat) (n : String) (d : DataW Unit), l[i]? = some (n, d) →
    ∃ g t cs fuel p, P.globalNamed n = some g ∧ (P.globals[g]?).map (·.type) = some t ∧ W.var? P n = some cs ∧ DataW.trod (fun _ => ()) P W 0 (fun _ => true) false fuel t cs.toList = some (d, p)
  | [], _, _, i, _, _, h => by simp at h
  | (n0, d0) :: r, ps, hL, i, n, d, h => by
    obtain ⟨g, t, cs, fuel, p, q, h1, h2, h3, h4, h5, _⟩ := hL
    cases i with
    | zero => simp only [List.getElem?_cons_zero, Option.some.injEq, Prod.mk.injEq] at h; obtain ⟨rfl, rfl⟩ := h; exact ⟨g, t, cs, fuel, p, h1, h2, h3, h4⟩
    | succ i => exact laidVars_mem h5 i n d (by simpa using h)

/-- A table that a row lists. -/
theorem laid_table {P : Program} {laid : List (String × DataW Unit)} {W : World} (h : laidMet P laid W) (i : Nat) {n : String} {d : DataW Unit} {g : Nat} {t : TypeId} {fuel : Nat} {l : List AV}
    (hi : laid[i]? = some (n, d)) (hg : P.globalNamed n = some g) (ht : (P.globals[g]?).map (·.type) = some t) (hf : flatD P fuel t d = some l) :
    ∀ (off : Nat) (v : AV), l[off]? = some v → oldM W ⟨g, off, none⟩ = some v := by
  obtain ⟨ps, hL, _⟩ := h
  obtain ⟨g', t', cs, fuel', p, h1, h2, h3, h4⟩ := laidVars_mem hL i n d hi
  obtain rfl : g = g' := Option.some.inj (hg.symm.trans h1)
  obtain rfl : t = t' := Option.some.inj (ht.symm.trans h2)
  have hc := flatD_ok fuel t d l fuel' cs.toList p hf h4
  intro off v hv
  unfold oldM
  rw [if_neg (by simp), World.var?_cell hg h3 off, ← Array.getElem?_toList, ← List.getElem?_map, hc]
  exact hv

theorem laidVars_row {P : Program} {W : World} : ∀ {l : List (String × DataW Unit)} {ps : List MemPlace}, DataW.LaidVars P W l ps → ∀ (i : Nat) (n : String) (d : DataW Unit), l[i]? = some (n, d) →
    ∃ g t cs fuel p, P.globalNamed n = some g ∧ (P.globals[g]?).map (·.type) = some t ∧ W.var? P n = some cs ∧ DataW.trod (fun _ => ()) P W 0 (fun _ => true) false fuel t cs.toList = some (d, p) ∧ ∀ off, off < cs.size → MemPlace.cell g off ∈ ps
  | [], _, _, i, _, _, h => by simp at h
  | (n0, d0) :: r, ps, hL, i, n, d, h => by
    obtain ⟨g, t, cs, fuel, p, q, h1, h2, h3, h4, h5, hps⟩ := hL
    cases i with
    | zero =>
      simp only [List.getElem?_cons_zero, Option.some.injEq, Prod.mk.injEq] at h
      obtain ⟨rfl, rfl⟩ := h
      refine ⟨g, t, cs, fuel, p, h1, h2, h3, h4, fun off ho => ?_⟩
      rw [hps]
      refine List.mem_append_left _ (List.mem_append_left _ ?_)
      unfold MemPlace.row
      exact List.mem_map.2 ⟨off, List.mem_range.2 ho, by simp⟩
    | succ i =>
      obtain ⟨g', t', cs', f', p', a1, a2, a3, a4, a5⟩ := laidVars_row h5 i n d (by simpa using h)
      refine ⟨g', t', cs', f', p', a1, a2, a3, a4, fun off ho => ?_⟩
      rw [hps]
      exact List.mem_append_right _ (a5 off ho)

/-- The block of a table that a row lists is plain. -/
theorem laid_plain {P : Program} {laid : List (String × DataW Unit)} {W : World} (h : laidMet P laid W) (i : Nat) {n : String} {d : DataW Unit} {g : Nat} {t : TypeId} {fuel : Nat} {l : List AV}
    (hi : laid[i]? = some (n, d)) (hg : P.globalNamed n = some g) (ht : (P.globals[g]?).map (·.type) = some t) (hf : flatD P fuel t d = some l) (hne : l.length ≠ 0) : plainB W g = true := by
  obtain ⟨ps, hL, _, hplain⟩ := h
  obtain ⟨g', t', cs, fuel', p, h1, h2, h3, h4, h5⟩ := laidVars_row hL i n d hi
  obtain rfl : g = g' := Option.some.inj (hg.symm.trans h1)
  obtain rfl : t = t' := Option.some.inj (ht.symm.trans h2)
  have hc := flatD_ok fuel t d l fuel' cs.toList p hf h4
  have hsz : 0 < cs.size := by
    have := congrArg List.length hc
    simp at this
    omega
  obtain ⟨c, t2, hh⟩ := (hplain g 0 (h5 0 hsz)).1
  unfold plainB
  rw [hh]; rfl

/-- Tables by block; the blocks in 'pl' are plain. -/
def tabsM (l : List (Nat × List AV)) (pl : List Nat) : Addr → Option AV := fun a =>
  if a.spot.isSome then (if a.spot == some 0 && pl.contains a.block then some .nilptr else none) else
  match l.find? fun x => x.1 == a.block with
  | some x => x.2[a.off]?
  | none => none

theorem tabsM_ok {l : List (Nat × List AV)} {pl : List Nat} {W : World} (h : ∀ x ∈ l, ∀ (off : Nat) (v : AV), x.2[off]? = some v → oldM W ⟨x.1, off, none⟩ = some v) (hp : ∀ b ∈ pl, plainB W b = true) : ∀ a v, tabsM l pl a = some v → oldM W a = some v := by
  intro a v hv
  obtain ⟨b, off, sp⟩ := a
  unfold tabsM at hv
  simp only at hv
  split at hv
  · rename_i hs
    split at hv
    · rename_i hb
      cases hv
      rw [Bool.and_eq_true, beq_iff_eq] at hb
      unfold oldM
      rw [if_pos hs, if_pos ⟨hp b (by simpa using hb.2), fun h => by rw [hb.1] at h; cases h⟩]
    · cases hv
  · rename_i hsp
    have hs0 : sp = none := by cases sp <;> simp_all
    subst hs0
    split at hv
    · rename_i x hx
      have hb : x.1 = b := by have := List.find?_some hx; simpa using this
      subst hb
      exact h x (List.mem_of_find?_eq_some hx) off v hv
    · cases hv

mutual
/-- The leaves of data without pointers. -/
def leafD : DataW Unit → List AV
  | .lit (.bool b) => [.bool b]
  | .lit (.int k n) => [.int k n]
  | .lit (.float k b) => [.float k b]
  | .lit (.string s) => [.str s]
  | .agg ds => leafDs ds
  | _ => []
def leafDs : List (DataW Unit) → List AV
  | [] => []
  | d :: r => leafD d ++ leafDs r
end

def ints (k : IntKind) (l : List Int) : List AV := l.map (.int k)

/-! ### Library functions without a body -/

def bitsX (k : FloatKind) (i : IntKind) (args : List AV) (H : Heap) : Option (AV × Heap) :=
  match args with
  | [.float k' b] => if k' = k ∧ isNaN k b = false then some (.int i b, H) else none
  | _ => none

def unbitsX (k : FloatKind) (i : IntKind) (args : List AV) (H : Heap) : Option (AV × Heap) :=
  match args with
  | [.int i' n] => if i' = i then some (.float k n.toNat, H) else none
  | _ => none

/-- The first place of a byte. -/
def byteAt (s : List UInt8) (c : UInt8) : Int :=
  match (List.range s.length).find? fun i => s[i]! == c with
  | some i => i
  | none => -1

def idxByteX (args : List AV) (H : Heap) : Option (AV × Heap) :=
  match args with
  | [.str s, .int .u8 c] => some (.int .i64 (byteAt s (UInt8.ofNat c.toNat)), H)
  | _ => none

section
variable {P : Program}

theorem ext_sem {M : Addr → Option AV} {k : FuncId} {fn : Func} {e : Array Value → Sem Value} (hf : P.funcs[k]? = some fn) (hname : (fn.name == "runtime.NumGoroutine") = false) (hb : fn.body.isNone = true)
    (hn : Extern.findNext fn = none) (he : Extern.find fn = some e) {args : List AV} {H : Heap} {v : AV} (h : ∀ (ρ : Asg) (W : World) (cs : Array Value), VRs ρ args cs.toList → ∃ cv, (e cs).run P W = .ok cv W ∧ VR ρ v cv) :
    SemF P M k args H fun v' h => v' = v ∧ h = H := by
  intro W0 W ρ cargs _ hR ha
  obtain ⟨cv, h1, h2⟩ := h ρ W cargs ha
  refine .inr ⟨cv, W, ?_, v, H, ρ, ⟨rfl, rfl⟩, Le.refl ρ, h2, hR⟩
  rw [run_callFunc_extern hf hname hb hn he, h1]
  rfl

theorem one_arg {ρ : Asg} {x : AV} {cs : Array Value} (h : VRs ρ [x] cs.toList) : ∃ y, cs = #[y] ∧ VR ρ x y := by
  simp only [VRs] at h
  obtain ⟨y, ys, h1, h2, h3⟩ := h
  subst h3
  refine ⟨y, ?_, h2⟩
  cases cs; simp_all

theorem two_args {ρ : Asg} {x x2 : AV} {cs : Array Value} (h : VRs ρ [x, x2] cs.toList) : ∃ y y2, cs = #[y, y2] ∧ VR ρ x y ∧ VR ρ x2 y2 := by
  simp only [VRs] at h
  obtain ⟨y, ys, h1, h2, y2, ys2, h3, h4, h5⟩ := h
  subst h5 h3
  refine ⟨y, y2, ?_, h2, h4⟩
  cases cs; simp_all

theorem bitsX_ok {M : Addr → Option AV} {k : FuncId} {fn : Func} {e : Array Value → Sem Value} {fk : FloatKind} {ik : IntKind} (hf : P.funcs[k]? = some fn) (hname : (fn.name == "runtime.NumGoroutine") = false) (hb : fn.body.isNone = true)
    (hn : Extern.findNext fn = none) (he : Extern.find fn = some e) (hrun : ∀ b W, (e #[.float fk b]).run P W = .ok (.int ik b) W) :
    ∀ args H v H', bitsX fk ik args H = some (v, H') → SemF P M k args H fun v' h => v' = v ∧ h = H' := by
  intro args H v H' h
  unfold bitsX at h
  split at h
  · split at h
    · rename_i k' b hc
      obtain ⟨rfl, hc⟩ := hc
      cases h
      refine ext_sem hf hname hb hn he fun ρ W cs hcs => ?_
      obtain ⟨y, rfl, hy⟩ := one_arg hcs
      simp only [VR] at hy
      obtain ⟨b', rfl, hb'⟩ := hy
      rcases hb' with rfl | ⟨hb', _⟩
      · exact ⟨_, hrun _ W, by simp only [VR]⟩
      · rw [hc] at hb'; cases hb'
    · cases h
  · cases h

theorem unbitsX_ok {M : Addr → Option AV} {k : FuncId} {fn : Func} {e : Array Value → Sem Value} {fk : FloatKind} {ik : IntKind} (hf : P.funcs[k]? = some fn) (hname : (fn.name == "runtime.NumGoroutine") = false) (hb : fn.body.isNone = true)
    (hn : Extern.findNext fn = none) (he : Extern.find fn = some e) (hrun : ∀ n W, (e #[.int ik n]).run P W = .ok (.float fk n.toNat) W) :
    ∀ args H v H', unbitsX fk ik args H = some (v, H') → SemF P M k args H fun v' h => v' = v ∧ h = H' := by
  intro args H v H' h
  unfold unbitsX at h
  split at h
  · split at h
    · rename_i i' n hc
      subst hc
      cases h
      refine ext_sem hf hname hb hn he fun ρ W cs hcs => ?_
      obtain ⟨y, rfl, hy⟩ := one_arg hcs
      simp only [VR] at hy
      subst hy
      exact ⟨_, hrun _ W, by simp only [VR]; exact ⟨_, rfl, .inl rfl⟩⟩
    · cases h
  · cases h

theorem run_indexByte (s : List UInt8) (c : Int) (W : World) : (Extern.BytealgIndexByte.indexByte #[.string ⟨⟨s⟩⟩, .int .u8 c]).run P W = .ok (.int .i64 (byteAt s (UInt8.ofNat c.toNat))) W := by
  have e0 : Extern.BytealgIndexByte.indexByte #[.string ⟨⟨s⟩⟩, .int .u8 c] = (match (List.range s.length).find? fun i : Nat => (⟨⟨s⟩⟩ : ByteArray)[i]! == c.toNat.toUInt8 with | some i => pure (goInt i) | none => pure (goInt (-1))) := rfl
  have e2 : (fun i : Nat => (⟨⟨s⟩⟩ : ByteArray)[i]! == c.toNat.toUInt8) = fun i : Nat => s[i]! == UInt8.ofNat c.toNat := by
    funext i
    congr 1
    by_cases h : i < s.length
    · rw [getElem!_pos (⟨⟨s⟩⟩ : ByteArray) i h, getElem!_pos s i h]; rfl
    · rw [getElem!_neg (⟨⟨s⟩⟩ : ByteArray) i h, getElem!_neg s i h]
  rw [e0, e2]
  unfold byteAt
  split <;> rfl

theorem idxByteX_ok {M : Addr → Option AV} {k : FuncId} {fn : Func} (hf : P.funcs[k]? = some fn) (hname : (fn.name == "runtime.NumGoroutine") = false) (hb : fn.body.isNone = true)
    (hn : Extern.findNext fn = none) (he : Extern.find fn = some Extern.BytealgIndexByte.indexByte) :
    ∀ args H v H', idxByteX args H = some (v, H') → SemF P M k args H fun v' h => v' = v ∧ h = H' := by
  intro args H v H' h
  unfold idxByteX at h
  split at h
  · cases h
    refine ext_sem hf hname hb hn he fun ρ W cs hcs => ?_
    obtain ⟨y, y2, rfl, hy, hy2⟩ := two_args hcs
    simp only [VR] at hy hy2
    subst hy hy2
    exact ⟨_, run_indexByte _ _ W, by simp only [VR]⟩
  · cases h

end

def okTrue : Option (AV × Heap) → Bool
  | some (.bool true, _) => true
  | _ => false

theorem okTrue_eq {r : Option (AV × Heap)} (h : okTrue r = true) : ∃ H', r = some (.bool true, H') := by
  unfold okTrue at h
  split at h
  · exact ⟨_, rfl⟩
  · cases h

theorem SemF.weaken {P : Program} {M M' : Addr → Option AV} (hM : ∀ a v, M a = some v → M' a = some v) {k : FuncId} {args : List AV} {H : Heap} {Q : AV → Heap → Prop} (h : SemF P M k args H Q) : SemF P M' k args H Q :=
  fun W0 W ρ cargs hM' hR ha => h W0 W ρ cargs (fun a v hv => hM' a v (hM a v hv)) hR ha

end Go.Proofs.YtaaecodkdgkjoaaDoor.E
