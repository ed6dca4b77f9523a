/- Part of a claim: the operations' soundness, seventh part: conversions, composite literals, make. Nothing of a program stands here. -/
import Derived.Test.YtnmignkabcblgaaDoorE10
import Derived.Laws.MakeOwn
set_option linter.unusedSimpArgs false
set_option linter.unusedVariables false
namespace Go.Proofs.YtnmignkabcblgaaDoor.E
open Go Go.RowKit

theorem FR.eq {k : FloatKind} {a b : Nat} (h : FR k a b) (hn : isNaN k a = false) : b = a := by
  rcases h with rfl | ⟨h1, _⟩
  · rfl
  · rw [hn] at h1; cases h1

theorem nan_conv_cut (k : FloatKind) (x t : Nat) : isNaN k ((Question.nanConv k x).cut t) = true := by
  have := nan_cut k x x t
  cases k <;> exact this

/-- A slice's or a string's cells, as the machine reads them. -/
inductive ReadsAs (P : Program) (W : World) (u : Value) (sz : Nat) (cs : List AV) (vs : List Value) : Prop
  | nil (h : u = .slice none 0 0) (h2 : cs = []) (h3 : vs = [])
  | sl (a : Addr) (len c : Nat) (h : u = .slice (some a) len c) (h2 : cs.length = len * sz) (h3 : (loadCells a (len * sz)).run P W = .ok vs.toArray W)
      (h4 : ∀ (i : Nat) (v : Value), vs[i]? = some v → W.cell? (a.add i) = some v)
  | str (l : List UInt8) (h : u = .string ⟨⟨l⟩⟩) (h1 : sz = 1) (h2 : vs = l.map fun b => .int .u8 b.toNat)

theorem sliceCells_ok {P : Program} {ρ : Asg} {H : Heap} {W0 W : World} {M : Addr → Option AV} (hR : Rel ρ H W0 W) (hM : MOK M W0) {s : AV} {sz : Nat} {cs : List AV} (h : sliceCells M H s sz = some cs) {u : Value} (hs : VR ρ s u) :
    ∃ vs, VRs ρ cs vs ∧ ReadsAs P W u sz cs vs := by
  unfold sliceCells at h
  split at h <;> try simp only [VR] at hs
  · cases h; exact ⟨[], by simp only [VRs], .nil hs rfl rfl⟩
  · rename_i b e off sz' len cap
    obtain ⟨L, a, c, k1, rfl, k3, k4, k5, k6, k7⟩ := hs
    split at h
    · rename_i hsz
      subst hsz
      split at h
      · rename_i hlen
        cases h
        refine ⟨[], by simp only [VRs], .sl a len c rfl (by simp [hlen]) ?_ ?_⟩
        · rw [hlen, Nat.zero_mul]
          rfl
        · intro i v hv; simp at hv
      · rename_i hlen
        split at h
        · rename_i cells elem ep sep hb
          split at h
          · rename_i hc
            cases h
            have ha : a = ⟨L.cb, off, none⟩ := by
              rcases k7 with k7 | k7
              · omega
              · exact k7
            subst ha
            have hl : ((cells.drop off).take (len * sz')).length = len * sz' := by simp; omega
            obtain ⟨vs, h1, h2, h8⟩ := run_loadN (P := P) (ρ := ρ) (W := W) (a := ⟨L.cb, off, none⟩) (cs := (cells.drop off).take (len * sz')) (fun i x hx => by
              rw [List.getElem?_take] at hx
              split at hx
              · rename_i hi
                rw [List.getElem?_drop] at hx
                rw [addr_add]
                exact hR.reads hb hc.1 k1 (by omega) hx
              · cases hx)
            rw [hl] at h1
            exact ⟨vs, h2, .sl _ len c rfl hl h1 h8⟩
          · cases h
        · cases h
    · cases h
  · rename_i a len cap
    subst hs
    obtain ⟨h1, h2⟩ := mapM_get h
    obtain ⟨vs, h3, h4, h8⟩ := run_loadN (P := P) (ρ := ρ) (W := W) (a := a) (cs := cs) (fun i x hx => by
      have hi : i < len * sz := by
        have := (List.getElem?_eq_some_iff.1 hx).1
        rw [h1] at this; simpa using this
      obtain ⟨y, hy, hM'⟩ := h2 i i (by rw [List.getElem?_range hi])
      rw [hx] at hy; cases hy
      exact hR.reads_old hM hM')
    have hl : cs.length = len * sz := by simpa using h1
    rw [hl] at h3
    exact ⟨vs, h4, .sl a len cap rfl hl h3 h8⟩
  · rename_i l
    subst hs
    split at h
    · rename_i hsz
      cases h
      refine ⟨l.map fun b => .int .u8 b.toNat, ?_, .str l rfl hsz rfl⟩
      refine VRs.mk (by simp) fun i x v hx hv => ?_
      simp only [List.getElem?_map, Option.map_eq_some_iff] at hx hv
      obtain ⟨b, hb, rfl⟩ := hx
      obtain ⟨b', hb', rfl⟩ := hv
      rw [hb] at hb'; cases hb'
      simp only [VR]
    · cases h
  · cases h

theorem bytesOf_ok {ρ : Asg} : ∀ {cs : List AV} {l : List UInt8} {vs : List Value}, bytesOf cs = some l → VRs ρ cs vs → ∃ ns : List Int, vs = ns.map (Value.int .u8) ∧ l = ns.map (fun n => UInt8.ofNat n.toNat)
  | [], l, vs, h, hv => by
    simp only [bytesOf, Option.some.injEq] at h; subst h
    simp only [VRs] at hv; subst hv
    exact ⟨[], rfl, rfl⟩
  | x :: cs, l, vs, h, hv => by
    unfold bytesOf at h
    split at h
    · rename_i heq; cases heq
    · rename_i n r heq
      cases heq
      simp only [Option.map_eq_some_iff] at h
      obtain ⟨l', h1, rfl⟩ := h
      simp only [VRs] at hv
      obtain ⟨y, ys, rfl, h2, h3⟩ := hv
      simp only [VR] at h2
      subst h2
      obtain ⟨ns, rfl, rfl⟩ := bytesOf_ok h1 h3
      exact ⟨n :: ns, rfl, rfl⟩
    · cases h

theorem push_fold : ∀ (ns : List Int) (s : ByteArray), ns.foldl (fun r n => r.push (UInt8.ofNat n.toNat)) s = ⟨⟨s.data.toList ++ ns.map (fun n => UInt8.ofNat n.toNat)⟩⟩
  | [], s => by simp
  | n :: ns, s => by
    rw [List.foldl_cons, push_fold ns]
    simp [ByteArray.push]

theorem freeze_last (W : World) (cs : Array Value) (e : TypeId) : ({ W with heap := W.heap.push (.cells cs e) } : World).freeze ⟨W.heap.size, cs.size, none⟩ 1 = { W with heap := W.heap.push (.cells cs e (cs.size, cs.size + 1)) } := by
  unfold World.freeze
  simp only [Nat.one_ne_zero, if_false]
  congr 1
  apply Array.ext
  · simp
  · intro i h1 h2
    simp only [Array.size_modify, Array.size_push] at h1 h2
    rw [Array.getElem_modify]
    simp only [Array.getElem_push]
    split
    · rename_i he
      subst he
      simp
    · rename_i he
      split
      · rfl
      · omega

theorem heap_freeze (W : World) (cb n k : Nat) : (W.freeze ⟨cb, n, none⟩ 1).heap[k]? = if k = cb then (W.heap[cb]?).map fun
    | .cells c elem (lo, hi) => .cells c elem (if lo == hi then (n, n + 1) else (min lo n, max hi (n + 1)))
    | o => o else W.heap[k]? := by
  unfold World.freeze
  simp only [Nat.one_ne_zero, if_false, Array.getElem?_modify]
  by_cases h : cb = k
  · subst h; simp
    congr 1
  · rw [if_neg h, if_neg (fun e => h e.symm)]

/-- A mark behind a block's end turns nothing. -/
theorem Rel.freezes {ρ : Asg} {H : Heap} {W0 W : World} (h : Rel ρ H W0 W) {b e ep sep : Nat} {cells : List AV} {elem : TypeId} (hb : H[b]? = some (.c cells elem ep sep)) (he : sep ≤ e) {l : Loc} (hl : ρ b e = some l) :
    ∃ cs fr, W.heap[l.cb]? = some (.cells cs elem fr) ∧ Rel ρ H W0 (W.freeze ⟨l.cb, cs.size, none⟩ 1) := by
  obtain ⟨h1, ⟨l', h2, h3⟩, h4, h5⟩ := h.blk b _ hb
  obtain ⟨g1, g2, cs, fr, g3, g4, g5, g6⟩ := h5 e l he hl
  refine ⟨cs, fr, g3, ?_⟩
  have hd := h.dom b e l hl
  have hsz : (W.freeze ⟨l.cb, cs.size, none⟩ 1).heap.size = W.heap.size := by simp [World.freeze]
  have hne : ∀ k, k ≠ l.cb → (W.freeze ⟨l.cb, cs.size, none⟩ 1).heap[k]? = W.heap[k]? := fun k hk => by rw [heap_freeze, if_neg hk]
  refine ⟨⟨h.below.os, h.below.tape, h.below.output, by rw [hsz]; exact h.below.size, fun k hk => ?_⟩, fun b' e' l' q => by rw [hsz]; exact h.dom b' e' l' q, h.own, fun b' x hx => ?_⟩
  · rw [hne k (by omega)]; exact h.below.block k hk
  · have hk := h.blk b' x hx
    by_cases hbb : b' = b
    · subst hbb
      rw [hb] at hx; cases hx
      refine ⟨h1, ⟨l', h2, h3⟩, h4, fun e2 l2 he2 q => ?_⟩
      obtain ⟨k1, k2, cs2, fr2, k3, k4, k5, k6⟩ := h5 e2 l2 he2 q
      by_cases hcb : l2.cb = l.cb
      · have hsame : cs2 = cs ∧ fr2 = fr := by
          rw [hcb, g3] at k3; cases k3; exact ⟨rfl, rfl⟩
        obtain ⟨rfl, rfl⟩ := hsame
        refine ⟨k1, k2, cs2, _, by rw [heap_freeze, if_pos hcb, ← hcb, k3]; rfl, k4, ?_, k6⟩
        unfold FrOK at *
        obtain ⟨lo, hi⟩ := fr2
        simp only at *
        split
        · right; simp only; omega
        · rename_i hne2
          simp only [beq_iff_eq] at hne2
          right; simp only; omega
      · exact ⟨k1, k2, cs2, fr2, by rw [hne _ hcb]; exact k3, k4, k5, k6⟩
    · have hother : ∀ e' l', ρ b' e' = some l' → (W.freeze ⟨l.cb, cs.size, none⟩ 1).heap[l'.cb]? = W.heap[l'.cb]? := fun e' l' q => hne _ (fun hc => hbb (h.own b' b e' e l' l q hl hc))
      cases x with
      | c cells' elem' ep' sep' =>
        obtain ⟨q1, q2, q3, q4⟩ := hk
        exact ⟨q1, q2, q3, fun e2 l2 he2 q => (q4 e2 l2 he2 q).mono (Le.refl ρ) (hother e2 l2 q)⟩
      | it s pos =>
        obtain ⟨⟨l2, q1, q2⟩, q3⟩ := hk
        exact ⟨⟨l2, q1, by rw [hother 0 l2 q1]; exact q2⟩, q3⟩
      | dead => trivial

theorem run_s2b {P : Program} (s : List UInt8) (e : TypeId) (W : World) (t : Nat) (ht : t = W.tape W.drawn (.appendCap s.length 0 e) % (2 ^ 63 - s.length)) (cs : Array Value)
    (hcs : cs = (s.map fun b => Value.int .u8 b.toNat).toArray ++ Array.replicate t (.int .u8 0)) :
    (Conv.stringToBytes e ⟨⟨s⟩⟩).run P W = .ok (.slice (some ⟨W.heap.size, 0, none⟩) s.length (s.length + t)) { W with heap := W.heap.push (.cells cs e (cs.size, cs.size + 1)), drawn := W.drawn + 1 } := by
  unfold Conv.stringToBytes
  have e1 : (ByteArray.mk ⟨s⟩).size = s.length := rfl
  rw [Sem.run_bind, e1, run_choose _ (show (Question.appendCap s.length 0 e).forced = false from rfl)]
  simp only [Result.andThen_ok]
  have e2 : (Question.appendCap s.length 0 e).cut (W.tape W.drawn (.appendCap s.length 0 e)) = s.length + t := by rw [ht]; rfl
  rw [e2]
  have e3 : s.length + t - s.length = t := by omega
  rw [e3]
  have e4 : (Array.map (fun b : UInt8 => Value.int .u8 b.toNat) ⟨s⟩ ++ Array.replicate t (Value.int .u8 0)) = cs := by
    rw [hcs]; simp
  rw [e4]
  have e5 := freeze_last { W with drawn := W.drawn + 1 } cs e
  have e6 : (newRow e cs).run P { W with drawn := W.drawn + 1 } = .ok ⟨W.heap.size, 0, none⟩ { W with heap := W.heap.push (.cells cs e), drawn := W.drawn + 1 } := rfl
  rw [Sem.run_bind, e6]
  simp only [Result.andThen_ok]
  have e7 : (markStringish ⟨W.heap.size, 0, none⟩).run P { W with heap := W.heap.push (.cells cs e), drawn := W.drawn + 1 } = .ok () { W with heap := W.heap.push (.cells cs e (cs.size, cs.size + 1)), drawn := W.drawn + 1 } := by
    unfold markStringish
    have e8 : (shape W.heap.size).run P { W with heap := W.heap.push (.cells cs e), drawn := W.drawn + 1 } = .ok (some (e, cs.size)) { W with heap := W.heap.push (.cells cs e), drawn := W.drawn + 1 } := by
      simp [shape, Sem.run, World.shape?]
    rw [Sem.run_bind, e8]
    simp only [Result.andThen_ok]
    show Result.ok () _ = _
    exact congrArg (Result.ok ()) e5
  rw [Sem.run_bind, e7]
  rfl

theorem str_only {ρ : Asg} {M : Addr → Option AV} {H : Heap} {x : AV} {l : ByteArray} {cs : List AV} {sz : Nat} (hx : VR ρ x (.string l)) (h : sliceCells M H x sz = some cs) : ∃ s, x = .str s := by
  cases x
  case str s => exact ⟨s, rfl⟩
  case nilslice => simp only [VR] at hx; cases hx
  case slice => simp only [VR] at hx; obtain ⟨_, _, _, _, hx, _⟩ := hx; cases hx
  case oslice => simp only [VR] at hx; cases hx
  all_goals (simp [sliceCells] at h)

theorem conv_ok {P : Program} {T : Tab} (hT : TOK P T) {ρ : Asg} {H H' : Heap} {W0 W : World} {M : Addr → Option AV} (hR : Rel ρ H W0 W) (hM : MOK M W0) {src dst : TypeId} {x z : AV} (h : convA T M H src dst x = some (z, H')) {u : Value}
    (hx : VR ρ x u) : Yields P (convert src dst u) ρ W0 W z H' := by
  unfold convA at h
  split at h
  · rename_i i j hs hd
    have hu := hT.run_und hs W
    have hv := hT.run_und hd W
    split at h <;> try simp only [VR] at hx
    · rename_i k k' n hj
      rw [hj] at hv
      cases h; subst hx
      refine Yields.same (cv := .int k (k.wrap n)) ?_ (by simp only [VR]) hR
      unfold convert
      rw [Sem.run_bind, hu]
      simp only [Result.andThen_ok]
      rw [Sem.run_bind, hv]
      rfl
    · rename_i k k' n hj
      rw [hj] at hv
      cases h; subst hx
      refine Yields.same (cv := .float k (k.nearest n)) ?_ (by simp only [VR]; exact ⟨_, rfl, FR.refl _ _⟩) hR
      unfold convert
      rw [Sem.run_bind, hu]
      simp only [Result.andThen_ok]
      rw [Sem.run_bind, hv]
      rfl
    · rename_i k s b hj
      rw [hj] at hv
      obtain ⟨b', rfl, hb⟩ := hx
      split at h
      · rename_i n hn
        split at h
        · rename_i hc
          cases h
          have hnn : isNaN s b = false := by
            unfold isNaN
            unfold FloatKind.decode at hn
            cases hr : s.format.read b <;> rw [hr] at hn <;> simp [Ieee.Datum.toInt, Ieee.Datum.integral] at hn <;> rfl
          rw [hb.eq hnn]
          refine Yields.same (cv := .int k n) ?_ (by simp only [VR]) hR
          unfold convert
          rw [Sem.run_bind, hu]
          simp only [Result.andThen_ok]
          rw [Sem.run_bind, hv]
          show (Conv.floatToInt s b k).run P W = _
          unfold Conv.floatToInt
          simp only [hn]
          rw [if_pos hc]
          rfl
        · cases h
      · cases h
    · rename_i k s b hj
      rw [hj] at hv
      obtain ⟨b', rfl, hb⟩ := hx
      have hconv : (convert src dst (.float s b')).run P W = (Conv.floatToFloat s b' k).run P W := by
        unfold convert
        rw [Sem.run_bind, hu]
        simp only [Result.andThen_ok]
        rw [Sem.run_bind, hv]
        rfl
      split at h
      · rename_i hsk
        subst hsk
        cases h
        refine Yields.same (cv := .float s b') ?_ (by simp only [VR]; exact ⟨_, rfl, hb⟩) hR
        rw [hconv]
        unfold Conv.floatToFloat
        rw [if_pos rfl]
        rfl
      · rename_i hsk
        split at h
        · rename_i g f hr
          cases h
          have hnb : isNaN s b' = true := by
            rcases hb with rfl | ⟨_, h2⟩
            · unfold isNaN; unfold FloatKind.decode at hr; rw [hr]; rfl
            · exact h2
          obtain ⟨g', f', hr'⟩ : ∃ g' f', s.decode b' = .nan g' f' := by
            unfold isNaN at hnb
            unfold FloatKind.decode
            cases hq : s.format.read b' <;> rw [hq] at hnb <;> simp [Ieee.Datum.isNaN] at hnb
            exact ⟨_, _, rfl⟩
          refine ⟨.float k ((Question.nanConv k b').cut (W.tape W.drawn (.nanConv k b'))), { W with drawn := W.drawn + 1 }, ρ, ?_, Le.refl ρ, by simp only [VR]; exact ⟨_, rfl, .inr ⟨nan_aNaN k, nan_conv_cut k _ _⟩⟩, hR.drawn _⟩
          rw [hconv]
          unfold Conv.floatToFloat
          rw [if_neg hsk, hr']
          simp only [Sem.run_bind, run_choose _ (show (Question.nanConv k b').forced = false from rfl), Result.andThen_ok, Sem.run_pure]
        · rename_i g hr
          cases h
          have hnn : isNaN s b = false := by unfold isNaN; unfold FloatKind.decode at hr; rw [hr]; rfl
          rw [hb.eq hnn] at hconv ⊢
          refine Yields.same (cv := .float k (k.encode (.infinity g))) ?_ (by simp only [VR]; exact ⟨_, rfl, FR.refl _ _⟩) hR
          rw [hconv]
          unfold Conv.floatToFloat
          rw [if_neg hsk, hr]
          rfl
        · rename_i g m e hr
          split at h
          · cases h
          · rename_i hinf
            cases h
            have hnn : isNaN s b = false := by unfold isNaN; unfold FloatKind.decode at hr; rw [hr]; rfl
            rw [hb.eq hnn] at hconv ⊢
            refine Yields.same (cv := .float k (k.encode (.number g m e))) ?_ (by simp only [VR]; exact ⟨_, rfl, FR.refl _ _⟩) hR
            rw [hconv]
            unfold Conv.floatToFloat
            rw [if_neg hsk, hr]
            simp only [hinf, Bool.false_eq_true, if_false]
            rfl
    · rename_i k n hj
      rw [hj] at hv
      cases h; subst hx
      refine Yields.same (cv := .string (Utf8.encode n)) ?_ (by simp only [VR]) hR
      unfold convert
      rw [Sem.run_bind, hu]
      simp only [Result.andThen_ok]
      rw [Sem.run_bind, hv]
      rfl
    · rename_i s hj
      rw [hj] at hv
      cases h; subst hx
      refine Yields.same (cv := .string ⟨⟨s⟩⟩) ?_ (by simp only [VR]) hR
      unfold convert
      rw [Sem.run_bind, hu]
      simp only [Result.andThen_ok]
      rw [Sem.run_bind, hv]
      rfl
    · rename_i e0 e b ep off sz len cap hi hj
      rw [hj] at hv
      rw [hi] at hu
      obtain ⟨L, a, c, k1, rfl, k3, k4, k5, k6, k7⟩ := hx
      split at h
      · rename_i ie he
        split at h
        · rename_i hie
          have hue := hT.run_und he W
          rw [hie] at hue
          split at h
          · rename_i hsd
            split at h
            · rename_i cells el ep' sep hb
              split at h
              · rename_i hse
                cases h
                have hab : a.block = L.cb := by rcases k7 with k7 | rfl <;> simp_all
                obtain ⟨cs, fr, q1, q2⟩ := hR.freezes hb hse k1
                refine ⟨.slice (some a) len c, _, ρ, ?_, Le.refl ρ, by simp only [VR]; exact ⟨L, a, c, k1, rfl, k3, k4, k5, k6, k7⟩, q2⟩
                unfold convert
                rw [Sem.run_bind, hu]
                simp only [Result.andThen_ok]
                rw [Sem.run_bind, hv]
                simp only [Result.andThen_ok, Sem.run_bind, hue, hsd, BEq.rfl]
                have hm : (markStringish a).run P W = .ok () (W.freeze ⟨L.cb, cs.size, none⟩ 1) := by
                  unfold markStringish
                  simp only [Sem.run_bind, shape, Sem.run, World.shape?, hab, q1, Result.andThen_ok, freeze, pure]
                rw [hm]
                rfl
              · cases h
            · cases h
          · cases h
        · cases h
      · cases h
    · rename_i e s hj
      rw [hj] at hv
      subst hx
      split at h
      · rename_i ie he
        split at h
        · rename_i hie
          have hue := hT.run_und he W
          rw [hie] at hue
          split at h
          · rename_i hlen
            cases h
            obtain ⟨t, ht⟩ : ∃ t, t = W.tape W.drawn (.appendCap s.length 0 e) % (2 ^ 63 - s.length) := ⟨_, rfl⟩
            obtain ⟨cs, hcs⟩ : ∃ cs : Array Value, cs = (s.map fun b => Value.int .u8 b.toNat).toArray ++ Array.replicate t (.int .u8 0) := ⟨_, rfl⟩
            have hcsz : cs.size = s.length + t := by rw [hcs]; simp
            have hR2 := hR.drawn (W.drawn + 1)
            obtain ⟨h1, h2⟩ := hR2.alloc (cells := s.map fun b => AV.int .u8 b.toNat) (cs := cs) e (cs.size, cs.size + 1) (by simp [hcsz]) (by
              rw [hcs]
              simp only [Array.toList_append, List.length_map]
              rw [List.take_append_of_le_length (by simp)]
              rw [List.take_of_length_le (by simp)]
              refine VRs.mk (by simp) fun i x v hx hv => ?_
              simp only [List.getElem?_map, Option.map_eq_some_iff] at hx hv
              obtain ⟨b, hb, rfl⟩ := hx
              obtain ⟨b', hb', rfl⟩ := hv
              rw [hb] at hb'; cases hb'
              simp only [VR]) (.inr (Nat.le_refl _))
            refine ⟨.slice (some ⟨W.heap.size, 0, none⟩) s.length (s.length + t), _, _, ?_, h1, ?_, h2⟩
            · unfold convert
              rw [Sem.run_bind, hu]
              simp only [Result.andThen_ok]
              rw [Sem.run_bind, hv]
              simp only [Result.andThen_ok]
              cases hiu : i.und <;> simp only [Sem.run_bind, hue, Result.andThen_ok] <;> exact run_s2b s e W t ht cs hcs
            · simp only [VR]
              refine ⟨_, _, s.length + t, Asg.put_same _ _ _ _, rfl, by simp, by omega, ?_, ?_, .inr rfl⟩
              · simp
              · simp only; omega
          · cases h
        · cases h
      · cases h
    · rename_i x e hi hj hn1 hn2
      rw [hj] at hv
      rw [hi] at hu
      split at h
      · rename_i ie he
        have hue := hT.run_und he W
        have hconv : ∀ a l c, u = .slice a l c → ie.und = .int .u8 → (convert src dst u).run P W = (Conv.bytesToString u).run P W := by
          intro a l c hsl hie
          subst hsl
          rw [hie] at hue
          unfold convert
          rw [Sem.run_bind, hu]
          simp only [Result.andThen_ok]
          rw [Sem.run_bind, hv]
          simp only [Result.andThen_ok]
          simp only [Sem.run_bind, hue, Result.andThen_ok]
        split at h
        · rename_i hie
          cases h
          simp only [VR] at hx
          subst hx
          refine Yields.same (cv := .string ⟨⟨[]⟩⟩) ?_ (by simp only [VR]) hR
          rw [hconv _ _ _ rfl hie]
          rfl
        · rename_i hie hnn
          split at h
          · rename_i cs hcs
            simp only [Option.map_eq_some_iff] at h
            obtain ⟨l, hl, h3⟩ := h
            cases h3
            obtain ⟨vs, v1, v2⟩ := sliceCells_ok (P := P) hR hM hcs hx
            obtain ⟨ns, rfl, rfl⟩ := bytesOf_ok hl v1
            cases v2 with
            | nil g1 g2 g3 =>
              subst g1
              have : ns = [] := by cases ns <;> simp_all
              subst this
              refine Yields.same (cv := .string ⟨⟨[]⟩⟩) ?_ (by simp only [VR, List.map_nil]) hR
              rw [hconv _ _ _ rfl hie]
              rfl
            | sl a len c g1 g2 g3 _ =>
              subst g1
              rw [Nat.mul_one] at g3
              refine Yields.same (cv := .string (ns.foldl (fun r n => r.push (UInt8.ofNat n.toNat)) ByteArray.empty)) ?_ ?_ hR
              · rw [hconv _ _ _ rfl hie]
                exact run_bytesToString W a len c ns g3
              · simp only [VR]
                rw [push_fold]
                rfl
            | str l g1 _ _ =>
              subst g1
              exfalso
              obtain ⟨s, hs'⟩ := str_only hx hcs
              exact hn2 s hs'
          · cases h
        · cases h
      · cases h
    · cases h
  · cases h

end Go.Proofs.YtnmignkabcblgaaDoor.E
