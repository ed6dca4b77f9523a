/- Part of a claim: a call seen from the world as it stands; blocks renumbered. Nothing of a program stands here. -/
import Derived.Test.YtnmignkabcblgaaDoorE24
set_option linter.unusedSimpArgs false
set_option linter.unusedVariables false
namespace Go.Proofs.YtnmignkabcblgaaDoor.E
open Go Go.RowKit

mutual
def ren (σ : Nat → Nat) : AV → AV
  | .ptr b e off => .ptr (σ b) e off
  | .slice b e off sz len cap => .slice (σ b) e off sz len cap
  | .iface t x => .iface t (ren σ x)
  | .agg l => .agg (rens σ l)
  | .tup l => .tup (rens σ l)
  | .bool b => .bool b
  | .int k n => .int k n
  | .float k b => .float k b
  | .cplx k a b => .cplx k a b
  | .str s => .str s
  | .nilptr => .nilptr
  | .optr a => .optr a
  | .nilslice => .nilslice
  | .oslice a l c => .oslice a l c
  | .func f => .func f
  | .nilfunc => .nilfunc
  | .nilIface => .nilIface
  | .other w => .other w
def rens (σ : Nat → Nat) : List AV → List AV
  | [] => []
  | x :: xs => ren σ x :: rens σ xs
end

theorem rens_map (σ : Nat → Nat) : ∀ l, rens σ l = l.map (ren σ)
  | [] => rfl
  | x :: xs => by rw [rens, rens_map σ xs]; rfl

def renB (σ : Nat → Nat) : HB → HB
  | .c cells el ep sep => .c (cells.map (ren σ)) el ep sep
  | .it s p => .it s p
  | .dead => .dead

mutual
theorem VR.ren {ρ ρ' : Asg} {σ : Nat → Nat} (h : ∀ b e l, ρ b e = some l → ρ' (σ b) e = some l) : ∀ (x : AV) (v : Value), VR ρ x v → VR ρ' (ren σ x) v
  | .bool _, _, q => by simpa only [VR, E.ren] using q
  | .int _ _, _, q => by simpa only [VR, E.ren] using q
  | .float _ _, _, q => by simpa only [VR, E.ren] using q
  | .cplx _ _ _, _, q => by simpa only [VR, E.ren] using q
  | .str _, _, q => by simpa only [VR, E.ren] using q
  | .nilptr, _, q => by simpa only [VR, E.ren] using q
  | .ptr b e off, v, q => by
      simp only [VR, E.ren] at q ⊢
      obtain ⟨l, h1, h2⟩ := q
      exact ⟨l, h _ _ _ h1, h2⟩
  | .optr _, _, q => by simpa only [VR, E.ren] using q
  | .nilslice, _, q => by simpa only [VR, E.ren] using q
  | .slice b e off sz len cap, v, q => by
      simp only [VR, E.ren] at q ⊢
      obtain ⟨l, a, c, h1, h2⟩ := q
      exact ⟨l, a, c, h _ _ _ h1, h2⟩
  | .oslice _ _ _, _, q => by simpa only [VR, E.ren] using q
  | .func _, _, q => by simpa only [VR, E.ren] using q
  | .nilfunc, _, q => by simpa only [VR, E.ren] using q
  | .iface t x, v, q => by
      simp only [VR, E.ren] at q ⊢
      obtain ⟨y, h1, h2⟩ := q
      exact ⟨y, h1, VR.ren h x y h2⟩
  | .nilIface, _, q => by simpa only [VR, E.ren] using q
  | .agg l, v, q => by
      simp only [VR, E.ren] at q ⊢
      obtain ⟨vs, h1, h2⟩ := q
      exact ⟨vs, h1, VRs.ren h l _ h2⟩
  | .tup l, v, q => by
      simp only [VR, E.ren] at q ⊢
      obtain ⟨vs, h1, h2⟩ := q
      exact ⟨vs, h1, VRs.ren h l _ h2⟩
  | .other _, _, q => by simpa only [VR, E.ren] using q
theorem VRs.ren {ρ ρ' : Asg} {σ : Nat → Nat} (h : ∀ b e l, ρ b e = some l → ρ' (σ b) e = some l) : ∀ (l : List AV) (vs : List Value), VRs ρ l vs → VRs ρ' (rens σ l) vs
  | [], vs, q => by simpa only [VRs, rens] using q
  | x :: xs, vs, q => by
      simp only [VRs, rens] at q ⊢
      obtain ⟨y, ys, h1, h2, h3⟩ := q
      exact ⟨y, ys, h1, VR.ren h x y h2, VRs.ren h xs ys h3⟩
end

mutual
theorem VR.unren {ρ ρ' : Asg} {σ : Nat → Nat} (h : ∀ b e l, ρ (σ b) e = some l → ρ' b e = some l) : ∀ (x : AV) (v : Value), VR ρ (E.ren σ x) v → VR ρ' x v
  | .bool _, _, q => by simpa only [VR, E.ren] using q
  | .int _ _, _, q => by simpa only [VR, E.ren] using q
  | .float _ _, _, q => by simpa only [VR, E.ren] using q
  | .cplx _ _ _, _, q => by simpa only [VR, E.ren] using q
  | .str _, _, q => by simpa only [VR, E.ren] using q
  | .nilptr, _, q => by simpa only [VR, E.ren] using q
  | .ptr b e off, v, q => by
      simp only [VR, E.ren] at q ⊢
      obtain ⟨l, h1, h2⟩ := q
      exact ⟨l, h _ _ _ h1, h2⟩
  | .optr _, _, q => by simpa only [VR, E.ren] using q
  | .nilslice, _, q => by simpa only [VR, E.ren] using q
  | .slice b e off sz len cap, v, q => by
      simp only [VR, E.ren] at q ⊢
      obtain ⟨l, a, c, h1, h2⟩ := q
      exact ⟨l, a, c, h _ _ _ h1, h2⟩
  | .oslice _ _ _, _, q => by simpa only [VR, E.ren] using q
  | .func _, _, q => by simpa only [VR, E.ren] using q
  | .nilfunc, _, q => by simpa only [VR, E.ren] using q
  | .iface t x, v, q => by
      simp only [VR, E.ren] at q ⊢
      obtain ⟨y, h1, h2⟩ := q
      exact ⟨y, h1, VR.unren h x y h2⟩
  | .nilIface, _, q => by simpa only [VR, E.ren] using q
  | .agg l, v, q => by
      simp only [VR, E.ren] at q ⊢
      obtain ⟨vs, h1, h2⟩ := q
      exact ⟨vs, h1, VRs.unren h l _ h2⟩
  | .tup l, v, q => by
      simp only [VR, E.ren] at q ⊢
      obtain ⟨vs, h1, h2⟩ := q
      exact ⟨vs, h1, VRs.unren h l _ h2⟩
  | .other _, _, q => by simpa only [VR, E.ren] using q
theorem VRs.unren {ρ ρ' : Asg} {σ : Nat → Nat} (h : ∀ b e l, ρ (σ b) e = some l → ρ' b e = some l) : ∀ (l : List AV) (vs : List Value), VRs ρ (rens σ l) vs → VRs ρ' l vs
  | [], vs, q => by simpa only [VRs, rens] using q
  | x :: xs, vs, q => by
      simp only [VRs, rens] at q ⊢
      obtain ⟨y, ys, h1, h2, h3⟩ := q
      exact ⟨y, ys, h1, VR.unren h x y h2, VRs.unren h xs ys h3⟩
end

theorem LocOK.unren {ρ ρ' : Asg} {σ : Nat → Nat} (h : ∀ b e l, ρ (σ b) e = some l → ρ' b e = some l) {W : World} {cells : List AV} {el : TypeId} {l : Loc} (q : LocOK ρ W (cells.map (ren σ)) el l) : LocOK ρ' W cells el l := by
  obtain ⟨h1, h2, cs, fr, h3, h4, h5, h6⟩ := q
  refine ⟨by simpa using h1, h2, cs, fr, h3, h4, h5, fun i v hi hv => ?_⟩
  obtain ⟨cv, q1, q2⟩ := h6 i (ren σ v) hi (by rw [List.getElem?_map, hv]; rfl)
  exact ⟨cv, q1, VR.unren h v cv q2⟩

theorem LocOK.ren {ρ ρ' : Asg} {σ : Nat → Nat} (h : ∀ b e l, ρ b e = some l → ρ' (σ b) e = some l) {W : World} {cells : List AV} {el : TypeId} {l : Loc} (q : LocOK ρ W cells el l) : LocOK ρ' W (cells.map (ren σ)) el l := by
  obtain ⟨h1, h2, cs, fr, h3, h4, h5, h6⟩ := q
  refine ⟨by simpa using h1, h2, cs, fr, h3, h4, h5, fun i v hi hv => ?_⟩
  rw [List.getElem?_map, Option.map_eq_some_iff] at hv
  obtain ⟨x, hx, rfl⟩ := hv
  obtain ⟨cv, q1, q2⟩ := h6 i x hi hx
  exact ⟨cv, q1, VR.ren h x cv q2⟩

theorem LocOK.grow {ρ ρ' : Asg} {W : World} {cells : List AV} {el : TypeId} {l : Loc} (h : LocOK ρ W cells el l) (hρ : Le ρ ρ') : LocOK ρ' W cells el l := h.mono hρ rfl

/-- THE BLOCKS THAT A CALL MADE, RENUMBERED (and what nobody needs any more, dropped). -/
theorem SemF.ren {P : Program} {M : Addr → Option AV} {k : FuncId} {args : List AV} {H H1 H2 : Heap} {v : AV} (σ : Nat → Nat) (h : SemF P M k args H fun v' h => v' = E.ren σ v ∧ h = H1)
    (hlen : H.length ≤ H2.length) (h12 : H2.length ≤ H1.length) (hid : ∀ i, i < H.length → σ i = i) (hin : ∀ i, σ i < H1.length → i < H2.length) (hinj : ∀ i j, σ i = σ j → i = j)
    (hblk : ∀ (b : Nat) (x : HB), H2[b]? = some x → x = .dead ∨ H1[σ b]? = some (renB σ x)) : SemF P M k args H fun v' h => v' = v ∧ h = H2 := by
  intro W0 W ρ cargs hM hR hv
  refine (h W0 W ρ cargs hM hR hv).mono ?_
  intro cv W' ⟨v', H', ρ1, ⟨h1, h2⟩, h3, h4, h5⟩
  subst h1 h2
  have un : ∀ b e l, ρ1 (σ b) e = some l → (fun b e => ρ1 (σ b) e : Asg) b e = some l := fun _ _ _ q => q
  refine ⟨v, H2, fun b e => ρ1 (σ b) e, ⟨rfl, rfl⟩, ?_, VR.unren un v cv h4, h5.below, ?_, ?_, ?_⟩
  · intro b e l q
    have := (hR.dom b e l q).1
    show ρ1 (σ b) e = some l
    rw [hid b this]; exact h3 _ _ _ q
  · intro b e l q
    have := h5.dom (σ b) e l q
    exact ⟨hin b this.1, this.2⟩
  · intro b b' e e' l l' q q' hc
    exact hinj _ _ (h5.own _ _ _ _ _ _ q q' hc)
  · intro b x hx
    rcases hblk b x hx with rfl | hb
    · trivial
    · have hk := h5.blk _ _ hb
      cases x with
      | c cells el ep sep =>
        obtain ⟨k1, ⟨l, k2, k3⟩, k4, k5⟩ := hk
        exact ⟨k1, ⟨l, k2, by simpa using k3⟩, fun e l q => k4 e l q, fun e l he q => (k5 e l he q).unren un⟩
      | it s p =>
        obtain ⟨⟨l, k1, k2⟩, k3⟩ := hk
        exact ⟨⟨l, k1, k2⟩, fun e l q => k3 e l q⟩
      | dead => trivial

/-- What stands behind the last block that is kept goes. -/
theorem SemF.trunc {P : Program} {M : Addr → Option AV} {k : FuncId} {args : List AV} {H H2 G : Heap} {v : AV} (h : SemF P M k args H fun v' h => v' = v ∧ h = H2 ++ G) (hlen : H.length ≤ H2.length)
    (hv : ∀ σ : Nat → Nat, (∀ i, i < H2.length → σ i = i) → E.ren σ v = v) (hb : ∀ σ : Nat → Nat, (∀ i, i < H2.length → σ i = i) → ∀ x ∈ H2, renB σ x = x) : SemF P M k args H fun v' h => v' = v ∧ h = H2 := by
  have hs : ∀ i, i < H2.length → (fun i => if i < H2.length then i else i + G.length) i = i := fun i hi => if_pos hi
  refine SemF.ren (fun i => if i < H2.length then i else i + G.length) (H1 := H2 ++ G) (by rw [hv _ hs]; exact h) hlen (by simp) (fun i hi => if_pos (by omega)) (fun i hi => ?_) (fun i j hij => ?_) (fun b x hx => .inr ?_)
  · simp only [List.length_append] at hi
    split at hi <;> omega
  · split at hij <;> split at hij <;> omega
  · rw [hb _ hs x (List.mem_of_getElem? hx)]
    have hlt := (List.getElem?_eq_some_iff.1 hx).1
    rw [if_pos hlt, List.getElem?_append_left hlt]; exact hx

/-- A CALL SEEN FROM THE WORLD AS IT STANDS: all that the caller has is old memory, which the callee reads and leaves alone. -/
theorem SemF.view {P : Program} {M : Addr → Option AV} {k : FuncId} {args : List AV} {H : Heap} {Q : AV → Heap → Prop}
    (h : ∀ (W0 W : World) (ρ : Asg) (cs : List Value), MOK M W0 → Rel ρ H W0 W → VRs ρ args cs → SemF P (oldM W) k (cs.map absC) [] fun v h => Q (E.ren (· + H.length) v) (H ++ h.map (renB (· + H.length)))) : SemF P M k args H Q := by
  intro W0 W ρ cargs hM hR hv
  have habs : ∀ l : List Value, VRs (fun _ _ => none) (l.map absC) l := fun l => by
    induction l with
    | nil => simp only [List.map_nil, VRs]
    | cons x l ih => simp only [List.map_cons, VRs]; exact ⟨x, l, rfl, VR_absC _ x, ih⟩
  refine (h W0 W ρ cargs.toList hM hR hv W W (fun _ _ => none) cargs (oldM_ok W) (Rel.start W) (habs _)).mono ?_
  intro cv W' ⟨v, H', ρ0, hQ, _, h4, h5⟩
  let ρ' : Asg := fun b e => if b < H.length then ρ b e else ρ0 (b - H.length) e
  have up : ∀ b e l, ρ0 b e = some l → ρ' (b + H.length) e = some l := fun b e l q => by
    show (if b + H.length < H.length then _ else _) = _
    rw [if_neg (by omega), Nat.add_sub_cancel]; exact q
  have hle : Le ρ ρ' := fun b e l q => by
    show (if b < H.length then _ else _) = _
    rw [if_pos (hR.dom b e l q).1]; exact q
  have inv : ∀ b e l, ρ' b e = some l → (b < H.length ∧ ρ b e = some l) ∨ (H.length ≤ b ∧ ρ0 (b - H.length) e = some l) := fun b e l q => by
    have q' : (if b < H.length then ρ b e else ρ0 (b - H.length) e) = some l := q
    split at q'
    · exact .inl ⟨by assumption, q'⟩
    · exact .inr ⟨by omega, q'⟩
  have hL := hR.later h5.below
  refine ⟨_, _, ρ', hQ, hle, VR.ren up v cv h4, hL.below, ?_, ?_, ?_⟩
  · intro b e l q
    simp only [List.length_append, List.length_map]
    rcases inv b e l q with ⟨hb, q⟩ | ⟨hb, q⟩
    · have := hL.dom b e l q; omega
    · have h6 := h5.dom _ e l q
      have := hR.below.size
      omega
  · intro b b' e e' l l' q q' hc
    rcases inv b e l q with ⟨hb, q⟩ | ⟨hb, q⟩ <;> rcases inv b' e' l' q' with ⟨hb', q'⟩ | ⟨hb', q'⟩
    · exact hL.own _ _ _ _ _ _ q q' hc
    · have h6 := hR.dom _ _ _ q; have h7 := h5.dom _ _ _ q'; omega
    · have h6 := hR.dom _ _ _ q'; have h7 := h5.dom _ _ _ q; omega
    · have := h5.own _ _ _ _ _ _ q q' hc; omega
  · intro b x hx
    rw [List.getElem?_append] at hx
    split at hx
    · rename_i hb
      have hk := hL.blk b x hx
      have hd : ∀ e l, ρ' b e = some l → ρ b e = some l := fun e l q => (inv b e l q).elim (·.2) fun h => by omega
      cases x with
      | c cells el ep sep =>
        obtain ⟨k1, ⟨l, k2, k3⟩, k4, k5⟩ := hk
        exact ⟨k1, ⟨l, hle _ _ _ k2, k3⟩, fun e l q => k4 e l (hd e l q), fun e l he q => (k5 e l he (hd e l q)).grow hle⟩
      | it s p =>
        obtain ⟨⟨l, k1, k2⟩, k3⟩ := hk
        exact ⟨⟨l, hle _ _ _ k1, k2⟩, fun e l q => k3 e l (hd e l q)⟩
      | dead => trivial
    · rename_i hb
      rw [List.getElem?_map, Option.map_eq_some_iff] at hx
      obtain ⟨y, hy, rfl⟩ := hx
      have hk := h5.blk _ y hy
      have hd : ∀ e l, ρ' b e = some l → ρ0 (b - H.length) e = some l := fun e l q => (inv b e l q).elim (fun h => by omega) (·.2)
      have hu : ∀ e l, ρ0 (b - H.length) e = some l → ρ' b e = some l := fun e l q => by
        have := up _ e l q
        rwa [Nat.sub_add_cancel (by omega)] at this
      cases y with
      | c cells el ep sep =>
        obtain ⟨k1, ⟨l, k2, k3⟩, k4, k5⟩ := hk
        exact ⟨k1, ⟨l, hu _ _ k2, by simpa using k3⟩, fun e l q => k4 e l (hd e l q), fun e l he q => (k5 e l he (hd e l q)).ren up⟩
      | it s p =>
        obtain ⟨⟨l, k1, k2⟩, k3⟩ := hk
        exact ⟨⟨l, hu _ _ k1, k2⟩, fun e l q => k3 e l (hd e l q)⟩
      | dead => trivial

/-- The same, of a call that answers no place: it turns nothing of the heap. -/
theorem SemF.view_flat {P : Program} {M : Addr → Option AV} {k : FuncId} {args : List AV} {H : Heap} {Q : AV → Prop}
    (h : ∀ (W0 W : World) (ρ : Asg) (cs : List Value), MOK M W0 → Rel ρ H W0 W → VRs ρ args cs → SemF P (oldM W) k (cs.map absC) [] fun v _ => flat v = true ∧ Q v) : SemF P M k args H fun v h => Q v ∧ h = H := by
  intro W0 W ρ cargs hM hR hv
  have habs : ∀ l : List Value, VRs (fun _ _ => none) (l.map absC) l := fun l => by
    induction l with
    | nil => simp only [List.map_nil, VRs]
    | cons x l ih => simp only [List.map_cons, VRs]; exact ⟨x, l, rfl, VR_absC _ x, ih⟩
  refine (h W0 W ρ cargs.toList hM hR hv W W (fun _ _ => none) cargs (oldM_ok W) (Rel.start W) (habs _)).mono ?_
  intro cv W' ⟨v, H', ρ0, ⟨h1, h2⟩, _, h4, h5⟩
  exact ⟨v, H, ρ, ⟨h2, rfl⟩, Le.refl ρ, flat_VR v cv h1 h4, hR.later h5.below⟩

/-- Memory that holds cells from a place on. -/
def At (M : Addr → Option AV) (a : Addr) (l : List AV) : Prop := ∀ (i : Nat) (v : AV), l[i]? = some v → M (a.add i) = some v

/-- What is the same whoever sees it. -/
def plainA : AV → Bool
  | .bool _ | .int _ _ | .str _ | .nilptr | .nilslice | .nilIface | .nilfunc => true
  | _ => false

theorem plain_abs0 {ρ : Asg} {x : AV} {v : Value} (hp : plainA x = true) (h : VR ρ x v) : absC0 v = x ∧ absC v = x := by
  cases x <;> simp only [plainA, Bool.false_eq_true] at hp <;> simp only [VR] at h <;> subst h <;> exact ⟨rfl, rfl⟩

theorem plain_abs {ρ : Asg} {x : AV} {v : Value} (hp : plainA x = true) (h : VR ρ x v) : absC v = x := (plain_abs0 hp h).2

theorem plain_agg {ρ : Asg} {l : List AV} {v : Value} (hp : l.all plainA = true) (h : VR ρ (.agg l) v) : absC v = .agg l := by
  simp only [VR] at h
  obtain ⟨vs, rfl, hv⟩ := h
  show AV.agg (vs.toList.map absC0) = .agg l
  congr 1
  have key : ∀ (l : List AV) (vs : List Value), l.all plainA = true → VRs ρ l vs → vs.map absC0 = l := by
    intro l
    induction l with
    | nil => intro vs _ h; simp only [VRs] at h; subst h; rfl
    | cons x l ih =>
      intro vs hp h
      simp only [VRs] at h
      obtain ⟨y, ys, rfl, h1, h2⟩ := h
      simp only [List.all_cons, Bool.and_eq_true] at hp
      rw [List.map_cons, (plain_abs0 hp.1 h1).1, ih ys hp.2 h2]
  exact key l _ hp hv

theorem view_cell {ρ : Asg} {H : Heap} {W0 W : World} (hR : Rel ρ H W0 W) {b e off : Nat} {cells : List AV} {el : TypeId} {ep sep : Nat} (hb : H[b]? = some (.c cells el ep sep)) (he : sep ≤ e) {l : Loc} (hl : ρ b e = some l) (ho : off < l.ln) {x : AV} (hx : cells[off]? = some x) (hp : plainA x = true) : oldM W ⟨l.cb, off, none⟩ = some x := by
  obtain ⟨cv, h1, h2⟩ := hR.reads hb he hl ho hx
  unfold oldM
  rw [h1]
  exact congrArg some (plain_abs hp h2)

/-- A slice of the caller's, seen as old memory. -/
theorem view_slice {ρ : Asg} {H : Heap} {W0 W : World} (hR : Rel ρ H W0 W) {b e off sz len : Nat} {cap : Option Nat} {cv : Value} (h : VR ρ (.slice b e off sz len cap) cv) {cells : List AV} {el : TypeId} {ep sep : Nat} (hb : H[b]? = some (.c cells el ep sep)) (he : sep ≤ e)
    {xs : List AV} (hx : xs = (cells.drop off).take (len * sz)) (hp : xs.all plainA = true) : ∃ a c, absC cv = .oslice a len c ∧ len ≤ c ∧ At (oldM W) a xs := by
  simp only [VR] at h
  obtain ⟨l, a, c, h1, rfl, h3, h4, h5, h6, h7⟩ := h
  refine ⟨a, c, rfl, h4, fun i v hv => ?_⟩
  have hi : i < len * sz := by
    have := (List.getElem?_eq_some_iff.1 hv).1
    rw [hx, List.length_take] at this
    omega
  have hv2 : cells[off + i]? = some v := by
    rw [hx, List.getElem?_take, if_pos hi, List.getElem?_drop] at hv
    exact hv
  rcases h7 with ⟨_, hc⟩ | rfl
  · subst hc
    have h0 : len = 0 := by omega
    subst h0
    simp at hi
  · rw [addr_add]
    exact view_cell hR hb he h1 (by omega) hv2 (List.all_eq_true.1 hp v (List.mem_of_getElem? hv))

theorem view_ptr {ρ : Asg} {H : Heap} {W0 W : World} (hR : Rel ρ H W0 W) {b e off n : Nat} {cv : Value} (h : VR ρ (.ptr b e off) cv) {cells : List AV} {el : TypeId} {ep sep : Nat} (hb : H[b]? = some (.c cells el ep sep)) (he : ep = e)
    {xs : List AV} (hx : xs = (cells.drop off).take n) (hp : xs.all plainA = true) : ∃ a, absC cv = .optr a ∧ At (oldM W) a xs := by
  subst he
  simp only [VR] at h
  obtain ⟨l, h1, h2, rfl⟩ := h
  refine ⟨_, rfl, fun i v hv => ?_⟩
  have hi : i < n := by
    have := (List.getElem?_eq_some_iff.1 hv).1
    rw [hx, List.length_take] at this
    omega
  have hv2 : cells[off + i]? = some v := by
    rw [hx, List.getElem?_take, if_pos hi, List.getElem?_drop] at hv
    exact hv
  obtain ⟨g1, ⟨l', g2, g3⟩, _⟩ := hR.blk b _ hb
  rw [h1] at g2; cases g2
  have hlt := (List.getElem?_eq_some_iff.1 hv2).1
  rw [addr_add]
  exact view_cell hR hb g1 h1 (by omega) hv2 (List.all_eq_true.1 hp v (List.mem_of_getElem? hv))

/-- What was old stays old. -/
theorem view_old {M : Addr → Option AV} {ρ : Asg} {H : Heap} {W0 W : World} (hM : MOK M W0) (hR : Rel ρ H W0 W) {a : Addr} {l : List AV} (h : At M a l) (hp : l.all plainA = true) : At (oldM W) a l := by
  intro i v hv
  obtain ⟨cv, h1, h2⟩ := (hM.later hR) _ _ (h i v hv)
  unfold oldM
  rw [h1]
  exact congrArg some (plain_abs (List.all_eq_true.1 hp v (List.mem_of_getElem? hv)) h2)

end Go.Proofs.YtnmignkabcblgaaDoor.E
