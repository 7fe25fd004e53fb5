/- Parts of the proof, merged: Pr12, Pr13. -/
import Derived.Test.YtaimekaagmcmnaaGreatNe19
/- The program's parser: flatPat of a pattern that was read; the node of a match while it grows. -/
namespace Go.Proofs.YtaimekaagmcmnaaGreat
open Go.RowKit
set_option linter.unusedVariables false
set_option linter.unusedSimpArgs false
attribute [local go_sem] Ext.cell

theorem plP_eq {L : Nat → PxT → List GDNode} : ∀ (ks : List PxT) (nx : Nat), (∀ k ∈ ks, ∀ a, L a k = layPxN a k ∧ (L a k).length = szP k) → layK L nx ks = (plP nx ks, layPxNs nx ks)
  | [], nx, h => rfl
  | k :: ks, nx, h => by
    obtain ⟨h1, h2⟩ := h k (by simp) nx
    have ih := plP_eq ks (nx + szP k) (fun k hk => h k (by simp [hk]))
    rw [layK, h2, ih, plP, layPxNs, h1]
mutual
theorem layPxN_len : ∀ (t : PxT) (a : Nat), (layPxN a t).length = szP t
  | .mk kd n s ks, a => by rw [layPxN, szP, List.length_cons, layPxNs_len ks (a + 1)]
theorem layPxNs_len : ∀ (ks : List PxT) (a : Nat), (layPxNs a ks).length = szPs ks
  | [], a => by rw [layPxNs, szPs]; rfl
  | k :: ks, a => by rw [layPxNs, szPs, List.length_append, layPxN_len k a, layPxNs_len ks]
end
theorem layT_eq : ∀ (f : Nat) (t : PxT) {S : Nat → Prop} {w : World} {v : Value}, PxR f S w v t → ∀ a, layT f a t = layPxN a t
  | 0, t, S, w, v, h, a => absurd h (by simp [PxR])
  | f + 1, .mk kd n s ks, S, w, v, ⟨b, ka, kc, hv, hS, hwf, hr, k1, k2, hk⟩, a => by
    have hks : ∀ k ∈ ks, ∀ a, layT f a k = layPxN a k ∧ (layT f a k).length = szP k := fun k hk' a => by
      obtain ⟨i, hi, rfl⟩ := List.getElem_of_mem hk'
      obtain ⟨g, off, _, _, hkk⟩ := hk (by show 0 < ks.length; omega)
      obtain ⟨p, _, hR⟩ := hkk i ks[i] (List.getElem?_eq_getElem hi)
      have := layT_eq f ks[i] hR a
      exact ⟨this, by rw [this, layPxN_len]⟩
    show ⟨kd, n, s, (layK (layT f) (a + 1) ks).1⟩ :: (layK (layT f) (a + 1) ks).2 = layPxN a (.mk kd n s ks)
    rw [plP_eq ks (a + 1) hks, layPxN]
theorem szT_sum {z : PxT → Nat} : ∀ (ks : List PxT), (∀ k ∈ ks, z k + 1 ≤ 2 * szP k) → (ks.map z).sum + ks.length ≤ 2 * szPs ks
  | [], h => by simp
  | k :: ks, h => by
    have h1 := h k (by simp)
    have h2 := szT_sum ks (fun k hk => h k (by simp [hk]))
    rw [szPs, List.map_cons, List.sum_cons, List.length_cons]
    omega
theorem szP_pos : ∀ t : PxT, 0 < szP t
  | .mk _ _ _ ks => by rw [szP]; omega
theorem szT_le : ∀ (f : Nat) (t : PxT), szT f t + 1 ≤ 2 * szP t
  | 0, t => by have := szP_pos t; rw [szT]; omega
  | f + 1, .mk kd n s ks => by
    have h := szT_sum (z := szT f) ks (fun k _ => szT_le f k)
    show 1 + ks.length + (ks.map (szT f)).sum + 1 ≤ 2 * szP (.mk kd n s ks)
    rw [szP]
    omega
theorem szPs_len : ∀ ks : List PxT, ks.length ≤ szPs ks
  | [] => by simp [szPs]
  | k :: ks => by have := szPs_len ks; have := szP_pos k; rw [szPs, List.length_cons]; omega
theorem plP_len : ∀ (ks : List PxT) (a : Nat), (plP a ks).length = ks.length
  | [], a => rfl
  | k :: ks, a => by rw [plP, List.length_cons, plP_len ks, List.length_cons]
mutual
theorem layPx_kids : ∀ (t : PxT) (a : Nat), ∀ x ∈ layPxN a t, x.kids.length ≤ szP t
  | .mk kd n s ks, a, x, hx => by
    rw [layPxN] at hx
    rw [szP]
    rcases List.mem_cons.1 hx with rfl | h
    · have := szPs_len ks; show (plP (a + 1) ks).length ≤ _; rw [plP_len]; omega
    · have := layPxs_kids ks (a + 1) x h; omega
theorem layPxs_kids : ∀ (ks : List PxT) (a : Nat), ∀ x ∈ layPxNs a ks, x.kids.length ≤ szPs ks
  | [], a, x, hx => by rw [layPxNs] at hx; cases hx
  | k :: ks, a, x, hx => by
    rw [layPxNs] at hx
    rw [szPs]
    rcases List.mem_append.1 hx with h | h
    · have := layPx_kids k a x h; omega
    · have := layPxs_kids ks _ x h; omega
end
theorem layPx_small {t : PxT} (h : szP t ≤ 600) : PatSmall (layPx t) :=
  ⟨by show ((layPxN 0 t).map fromD).length ≤ _; rw [List.length_map, layPxN_len]; omega, fun x hx => by
    obtain ⟨y, hy, rfl⟩ := List.mem_map.1 hx
    have := layPx_kids t 0 y hy
    show y.kids.length ≤ _
    omega⟩
theorem OwnF.slO3 {α : Type} {R : Reading α} {sz : Nat} {f : α → List Value} {wf : α → Prop} {e : TypeId} {lo : Nat} {w : World} {v : Value} {xs : List α} (F : Flat R sz f wf) (h : OwnF e sz f wf lo w v xs) :
    SlO e sz (FlatO f wf) v.ownBlock.toList w v xs := by
  have hp : (xs.map fun _ => ([] : List Nat)).flatten = [] := by
    induction xs with
    | nil => rfl
    | cons x xs ih => simp
  have hG : GrowO e sz (FlatO f wf) lo w v (xs.map fun _ => []) xs := ⟨xs.map f, h.1, ⟨by simp, by simp, fun r hr => by obtain ⟨x, _, rfl⟩ := List.mem_map.1 hr; exact F.len x, fun i p r x h1 h2 h3 => by
    rw [List.getElem?_map, h3] at h1 h2
    simp at h1 h2
    exact ⟨by first | exact h1 | exact h1.symm, by first | exact h2 | exact h2.symm, h.2 x (List.mem_of_getElem? h3)⟩⟩⟩
  have := hG.slO
  unfold fpO at this
  rw [hp, List.append_nil] at this
  exact this
theorem ownD_slO {A : Nat → Prop} {lo : Nat} {w : World} {v : Value} {ps : List DRow} (hO : OwnD A 111 lo w v ps) (hK : KO lo w ps) :
    ∃ bs, SlO 111 4 GPNode.O bs w v (ps.map fun p => fromD p.1) ∧ ∀ b ∈ bs, lo ≤ b := by
  have hG : GrowO 111 4 GPNode.O lo w v (ps.map fun p => (kidsV p).ownBlock.toList) (ps.map fun p => fromD p.1) := by
    refine ⟨ps.map drow, by rw [List.length_map]; exact hO.own.1, ⟨by simp, by simp, fun r hr => by obtain ⟨x, _, rfl⟩ := List.mem_map.1 hr; rfl, fun i p r x h1 h2 h3 => ?_⟩⟩
    rw [List.getElem?_map] at h1 h2 h3
    obtain ⟨y, hy, rfl⟩ := Option.map_eq_some_iff.1 h1
    rw [hy] at h2 h3
    simp only [Option.map_some, Option.some.injEq] at h2 h3
    subst h2 h3
    have hm := List.mem_of_getElem? hy
    exact ⟨kidsV y, rfl, hO.own.2 y hm, (hK y hm).slO3 flatInt⟩
  refine ⟨_, hG.slO, fun b hb => ?_⟩
  rcases mem_fpO.1 hb with h | h
  · exact (hO.own.base b h).1
  · obtain ⟨l, hl, hb⟩ := List.mem_flatten.1 h
    obtain ⟨p, hp, rfl⟩ := List.mem_map.1 hl
    exact ((hK p hp).base b (by simpa using hb)).1
theorem flatPat_nil {lo : Nat} {nv pv : Value} {w : World} {t : PxT} (h : TP lo nv w pv t) (hz : szP t ≤ 600) : Calls Tryz.prog 165 #[.slice none 0 0, pv] w fun e w' =>
    ∃ v' bs, e = .returned (.tuple #[v', .int .i64 0]) ∧ SlO 111 4 GPNode.O bs w' v' (layPx t).nodes ∧ (∀ b ∈ bs, w.heap.size ≤ b) ∧ Below w.heap.size w w' := by
  obtain ⟨F, hF⟩ := h
  have hF2 := hF.to (S' := fun q => q < w.heap.size) (Same.below (Below.refl _ _)) (fun b _ hb => hb)
  have hs := szT_le F t
  refine (flatPat_c F t (fun q => q < w.heap.size) (.slice none 0 0) pv [] w.heap.size w hF2 (OwnD.nil _ _ _ _) List.Pairwise.nil (fun p hp => by cases hp) (Nat.le_refl _) (fun q h => h) (by simp only [List.length_nil]; omega)).mono ?_
  rintro e w' ⟨v', ps', rfl, hO, _, hKO, hm, hb, _⟩
  obtain ⟨bs, h1, h2⟩ := ownD_slO hO hKO
  refine ⟨v', bs, rfl, ?_, h2, hb⟩
  have e1 : ps'.map (fun p => fromD p.1) = (layPx t).nodes := by
    show _ = (layPxN 0 t).map fromD
    rw [← layT_eq F t hF 0]
    simp only [List.map_nil, List.nil_append, List.length_nil] at hm
    rw [← hm, List.map_map]
    rfl
  rw [e1] at h1
  exact h1

/-! ### The node of a match while it grows -/
structure MB (lo q : Nat) (at_ : Int) (nv : Value) (w : World) (kv pv : Value) (vs : List Value) (pss : List (List Nat)) (kids : List ExT) (pats : List GPat) : Prop where
  hq : lo ≤ q
  nq : nv.ownBlock ≠ some q
  row : RowAt w q 0 [.int .i64 13, .int .i64 at_, .int .i64 0, .string ⟨#[]⟩, kv, pv]
  wr : Wr w q 0 6
  kown : w.ownsRow lo 127 1 kv kids.length vs
  pown : GrowO 83 1 GPat.O lo w pv pss pats
  kq : kv.ownBlock ≠ some q
  pq : q ∉ fpO pv pss
  kp : ∀ g, kv.ownBlock = some g → g ∉ fpO pv pss
  pp : ∀ g, pv.ownBlock = some g → g ∉ pss.flatten
  nk : ∀ g, kv.ownBlock = some g → nv.ownBlock ≠ some g
  np : ∀ g ∈ fpO pv pss, nv.ownBlock ≠ some g ∧ lo ≤ g
  tr : ∀ (i : Nat) p t, vs[i]? = some p → kids[i]? = some t → ∃ F, ExR F (fun g => lo ≤ g ∧ nv.ownBlock ≠ some g ∧ g ≠ q ∧ kv.ownBlock ≠ some g ∧ pv.ownBlock ≠ some g) w p t
  sm : ∀ p ∈ pats, PatSmall p
theorem MB.lt {lo q : Nat} {at_ : Int} {nv kv pv : Value} {w : World} {vs : List Value} {pss : List (List Nat)} {kids : List ExT} {pats : List GPat} (h : MB lo q at_ nv w kv pv vs pss kids pats) : q < w.heap.size := World.block_lt_of_cell? _ _ (h.row 0 _ rfl)
theorem MB.step {b lo q : Nat} {at_ : Int} {nv nv' kv pv : Value} {w w' : World} {vs : List Value} {pss : List (List Nat)} {kids : List ExT} {pats : List GPat} (h : MB lo q at_ nv w kv pv vs pss kids pats) (f : PF b w nv w' nv') (hb : b < lo) : MB lo q at_ nv' w' kv pv vs pss kids pats := by
  have hob := own_base h.kown
  have hne : ∀ g, g < w.heap.size → nv.ownBlock ≠ some g → nv'.ownBlock ≠ some g := fun g h1 h2 e => by
    rcases f.blk g e with h3 | h3
    · exact h2 h3
    · omega
  have hK : ∀ g, g ≠ b → nv.ownBlock ≠ some g → ¬ (g = b ∨ nv.ownBlock = some g) := fun g h1 h2 h3 => by rcases h3 with h3 | h3; exact h1 h3; exact h2 h3
  refine ⟨h.hq, hne _ h.lt h.nq, h.row.kept f.kept (hK _ (by have := h.hq; omega) h.nq), h.wr.kept f.kept (hK _ (by have := h.hq; omega) h.nq), own_kept h.kown f.kept (fun g hg => hK _ (by have := (hob g hg).1; omega) (h.nk g hg)), h.pown.kept GPat.ok f.kept (fun g hg => hK _ (by have := (h.np g hg).2; omega) (h.np g hg).1), h.kq, h.pq, h.kp, h.pp, fun g hg => hne _ (hob g hg).2 (h.nk g hg), fun g hg => ⟨hne _ (h.pown.lt GPat.ok g hg) (h.np g hg).1, (h.np g hg).2⟩, fun i p t hp ht => ?_, h.sm⟩
  obtain ⟨F, hF⟩ := h.tr i p t hp ht
  exact ⟨F, hF.to (fun g h1 h2 => f.kept g h2 (hK _ (by have := h1.1; omega) h1.2.1)) fun g h1 h2 => ⟨h1.1, hne _ h2 h1.2.1, h1.2.2⟩⟩
theorem MB.done {lo q : Nat} {at_ : Int} {nv kv pv : Value} {w : World} {vs : List Value} {pss : List (List Nat)} {kids : List ExT} {pats : List GPat} (h : MB lo q at_ nv w kv pv vs pss kids pats) (ha : I64 at_) (hp : pats.length ≤ 1048576) (hk : 0 < kids.length) : TR lo nv w (.pointer (some ⟨q, 0, none⟩)) (.mk 13 at_ 0 (bs []) kids pats) := by
  obtain ⟨g, cap, hv, h1, h2, h3, h4, h5, h6⟩ := own_cells h.kown hk
  have hlen : vs.length = kids.length := by have := h.kown.1; omega
  obtain ⟨F, hF⟩ : ∃ F, ∀ (i : Nat) p t, vs[i]? = some p → kids[i]? = some t → ExR F (fun g => lo ≤ g ∧ nv.ownBlock ≠ some g) w p t := exRs_up vs kids hlen fun i p t hp ht => by
    obtain ⟨F, hF⟩ := h.tr i p t hp ht
    exact ⟨F, hF.to (Same.below (Below.refl _ _)) fun g h1 _ => ⟨h1.1, h1.2.1⟩⟩
  have hrow := h.row
  rw [hv] at hrow
  refine ⟨F + 1, q, _, cap, pv, fpO pv pss, rfl, ⟨h.hq, h.nq⟩, exw (by omega) ha z64 bs_ok, ⟨hp, h.sm⟩, hrow, h.pown.slO, fun g hg => ⟨(h.np g hg).2, (h.np g hg).1⟩, h3, h4, fun _ => ⟨g, 0, rfl, ⟨h1, h.nk g (by rw [hv]; rfl)⟩, fun i k hi => ?_⟩⟩
  obtain ⟨p, hp⟩ : ∃ p, vs[i]? = some p := ⟨_, List.getElem?_eq_getElem (by rw [hlen]; exact (List.getElem?_eq_some_iff.1 hi).1)⟩
  exact ⟨p, h5 i p hp, hF i p k hp hi⟩
end Go.Proofs.YtaimekaagmcmnaaGreat

/- The program's parser: how a match's node grows. -/
namespace Go.Proofs.YtaimekaagmcmnaaGreat
open Go.RowKit
set_option linter.unusedVariables false
set_option linter.unusedSimpArgs false
attribute [local go_sem] Ext.cell

theorem PS.keep {C : PC} {b i : Nat} {w w' : World} {nv : Value} {ns : List ByteArray} {S : Nat → Prop} (P : PS C b w i nv ns) (hK : Kept S w w') (hS : ¬ S b) (hn : ∀ g, nv.ownBlock = some g → ¬ S g) (hB : Below b w w') : PS C b w' i nv ns :=
  ⟨P.ok.to hB, P.row.kept hK hS, P.wr.kept hK hS, P.nam.kept hK hn, P.ile, P.nle⟩
theorem PF.keep {b : Nat} {w0 w w' : World} {nv0 nv : Value} {S : Nat → Prop} (F : PF b w0 nv0 w nv) (hK : Kept S w w') (hS : ∀ x, S x → w0.heap.size ≤ x) (hB : Below b w w') : PF b w0 nv0 w' nv :=
  ⟨F.below.trans hB, fun x h1 h2 => (hK x (Nat.lt_of_lt_of_le h1 F.size) (fun h => by have := hS x h; omega)).trans (F.kept x h1 h2), F.blk⟩
theorem MB.start {C : PC} {b i : Nat} {w w1 W : World} {nv nv1 p : Value} {ns : List ByteArray} {at_ : Int} {t : ExT} (P : PS C b w1 i nv1 ns) (F : PF b w nv w1 nv1) (T : TR w.heap.size nv1 w1 p t)
    (hW : W = (w1.alloc (.cells #[p] 127)).alloc (.cells #[.int .i64 13, .int .i64 at_, .int .i64 0, .string ⟨#[]⟩, .slice (some ⟨w1.heap.size, 0, none⟩) 1 1, .slice none 0 0] 167)) :
    PS C b W i nv1 ns ∧ PF b w nv W nv1 ∧ MB w.heap.size (w1.heap.size + 1) at_ nv1 W (.slice (some ⟨w1.heap.size, 0, none⟩) 1 1) (.slice none 0 0) [p] [] [t] [] := by
  have h2 := RowAt.box (w1.alloc (.cells #[p] 127)) #[.int .i64 13, .int .i64 at_, .int .i64 0, .string ⟨#[]⟩, .slice (some ⟨w1.heap.size, 0, none⟩) 1 1, .slice none 0 0] 167
  have h3 := Wr.box (w1.alloc (.cells #[p] 127)) #[.int .i64 13, .int .i64 at_, .int .i64 0, .string ⟨#[]⟩, .slice (some ⟨w1.heap.size, 0, none⟩) 1 1, .slice none 0 0] 167
  have h4 := own_new w1 #[p] 127 1 1 (by simp) (by unfold maxLen; omega) w.heap.size F.size
  have hb2 : Below (w1.alloc (.cells #[p] 127)).heap.size (w1.alloc (.cells #[p] 127)) W := by rw [hW]; go_grown
  have h5 := own_below h4 hb2
  simp only [World.size_alloc] at h2 h3
  rw [← hW] at h2 h3
  have hb : Below w1.heap.size w1 W := by rw [hW]; go_grown
  have hs := F.size
  refine ⟨P.below hb, F.near hb (Nat.le_of_lt P.lt), ⟨by omega, P.fresh (Nat.le_succ _), h2, h3, h5, GrowO.nil, ?_, ?_, ?_, ?_, ?_, ?_, ?_, fun p h => by cases h⟩⟩
  · simp [Value.ownBlock]
  · simp [fpO, Value.ownBlock]
  · intro g _; simp [fpO, Value.ownBlock]
  · intro g h; simp [Value.ownBlock] at h
  · intro g hg
    obtain rfl : w1.heap.size = g := by simpa [Value.ownBlock] using hg
    exact P.fresh (Nat.le_refl _)
  · intro g hg; simp [fpO, Value.ownBlock] at hg
  · intro j p' t' hp ht
    obtain ⟨F', hF⟩ := T
    match j, hp, ht with
    | 0, hp, ht =>
      simp at hp ht; subst hp ht
      exact ⟨F', (hF.to (Same.below hb) fun g h1 h2 => ⟨h1.1, h1.2, by omega, fun e => by
        obtain rfl : w1.heap.size = g := by simpa [Value.ownBlock] using e
        omega, by simp [Value.ownBlock]⟩)⟩
    | j + 1, hp, _ => simp at hp

theorem MB.addPat {C : PC} {b i q n g cap : Nat} {w0 w w1 w2 W : World} {nv0 nv kv v' pv' : Value} {va : Option Addr} {vc : Nat} {ns : List ByteArray} {at_ : Int} {vs : List Value} {pss : List (List Nat)} {rows : List (List Value)} {bs2 : List Nat} {kids : List ExT} {pats : List GPat} {x : GPat}
    (h : MB w0.heap.size q at_ nv w kv (.slice va n vc) vs pss kids pats) (hn : n = pats.length) (hrows : RowsO GPat.O 1 w pss rows pats) (P : PS C b w i nv ns) (F : PF b w0 nv0 w nv) (h0 : b < w0.heap.size)
    (hO : GPat.O bs2 w [v'] x) (hbs : ∀ g ∈ bs2, w0.heap.size ≤ g ∧ nv.ownBlock ≠ some g ∧ g ≠ q ∧ kv.ownBlock ≠ some g ∧ (Value.slice va n vc).ownBlock ≠ some g) (hsm : PatSmall x)
    (hB : Below w.heap.size w w1) (hgrow : w1.grownBy w2 (Value.slice va n vc).ownBlock) (hown : w2.ownsRow w0.heap.size 83 1 (.slice (some ⟨g, 0, none⟩) (n + 1) cap) (n + 1) (rows.flatten ++ [v']))
    (hat : (Value.slice va n vc).ownBlock = some g ∨ g = w1.heap.size) (hp' : pv' = .slice (some ⟨g, 0, none⟩) (n + 1) cap) (hW : W = w2.setCell ⟨q, 5, none⟩ pv') :
    PS C b W i nv ns ∧ PF b w0 nv0 W nv ∧ MB w0.heap.size q at_ nv W kv pv' vs (pss ++ [bs2]) kids (pats ++ [x]) := by
  subst hp' hW
  have hob := own_base h.kown
  have hF := F.size
  have hsz := hB.size
  have hlt := h.lt
  have hwq := h.hq
  have K6 := kept_of hgrow hB
  have hqo : ∀ g', (Value.slice va n vc).ownBlock = some g' → g' ≠ q := fun g' hg e => h.pq (mem_fpO.2 (.inl (e ▸ hg)))
  have KS : Kept (fun k => k = q ∨ (Value.slice va n vc).ownBlock = some k) w (w2.setCell ⟨q, 5, none⟩ (.slice (some ⟨g, 0, none⟩) (n + 1) cap)) :=
    Kept.set (p := ⟨q, 5, none⟩) (fun k h1 h2 => K6 k h1 (fun e => h2 (.inr e.symm))) (.inl rfl) _
  have hgq : g ≠ q := by rcases hat with e | e; exact hqo g e; omega
  have hnq : ¬ some q = (Value.slice va n vc).ownBlock := fun e => hqo q e.symm rfl
  have hbq : Below b w (w2.setCell ⟨q, 5, none⟩ (.slice (some ⟨g, 0, none⟩) (n + 1) cap)) := by
    obtain ⟨rows', ho', _⟩ := h.pown
    have := below_grown2 (wr := w) (base := w0.heap.size) hgrow hB (Below.refl _ w) hF (by rw [hn] at *; exact ho')
    exact ((this.mono (Nat.le_of_lt h0)).setCell (p := ⟨q, 5, none⟩) (by show b ≤ q; omega) _)
  have hSb : ∀ x, (x = q ∨ (Value.slice va n vc).ownBlock = some x) → w0.heap.size ≤ x := fun x hx => by
    rcases hx with rfl | hx
    · exact hwq
    · exact (h.np x (mem_fpO.2 (.inl hx))).2
  refine ⟨P.keep KS (fun e => by have := hSb b e; omega) (fun g' hg' e => ?_) hbq, F.keep KS hSb hbq, ⟨h.hq, h.nq, (h.row.kept K6 hnq).putAt (j := 5) (by simp) _, (h.wr.kept K6 hnq).set 5 _, own_kept h.kown KS (fun g' hg' e => ?_), ⟨rows ++ [[v']], ?_, ?_⟩, h.kq, ?_, ?_, ?_, h.nk, ?_, ?_, ?_⟩⟩
  · rcases e with rfl | e
    · exact h.nq hg'
    · exact (h.np g' (mem_fpO.2 (.inl e))).1 hg'
  · rcases e with rfl | e
    · exact h.kq hg'
    · exact h.kp g' hg' (mem_fpO.2 (.inl e))
  · rw [List.length_append, ← hn, List.flatten_append]
    exact own_kept hown ((Kept.refl (· = q) w2).set (p := ⟨q, 5, none⟩) rfl _) (fun g' hg' e => by
      obtain rfl : g = g' := by simpa [Value.ownBlock] using hg'
      exact hgq e)
  · refine RowsO.push (hrows.kept GPat.ok KS fun b' hb' e => ?_) rfl (GPat.ok.kept hO KS fun b' hb' e => ?_)
    · rcases e with rfl | e
      · exact h.pq (mem_fpO.2 (.inr hb'))
      · exact h.pp b' e hb'
    · obtain ⟨_, _, h3, _, h5⟩ := hbs b' hb'
      rcases e with e | e
      · exact h3 e
      · exact h5 e
  · intro hm
    rcases mem_fpO.1 hm with e | e
    · exact hgq (by simpa [Value.ownBlock] using e)
    · rw [List.flatten_append, List.mem_append] at e
      rcases e with e | e
      · exact h.pq (mem_fpO.2 (.inr e))
      · simp at e; exact (hbs q e).2.2.1 rfl
  · intro g' hg' hm
    rcases mem_fpO.1 hm with e | e
    · obtain rfl : g = g' := by simpa [Value.ownBlock] using e
      rcases hat with e2 | e2
      · exact h.kp g hg' (mem_fpO.2 (.inl e2))
      · have := (hob g hg').2; omega
    · rw [List.flatten_append, List.mem_append] at e
      rcases e with e | e
      · exact h.kp g' hg' (mem_fpO.2 (.inr e))
      · simp at e; exact (hbs g' e).2.2.2.1 hg'
  · intro g' hg' hm
    obtain rfl : g = g' := by simpa [Value.ownBlock] using hg'
    rw [List.flatten_append, List.mem_append] at hm
    rcases hat with e2 | e2
    · rcases hm with e | e
      · exact h.pp g e2 e
      · simp at e; exact (hbs g e).2.2.2.2 e2
    · rcases hm with e | e
      · have := h.pown.lt GPat.ok g (mem_fpO.2 (.inr e)); omega
      · simp at e
        have := GPat.ok.lt hO g e
        omega
  · intro g' hg'
    rcases mem_fpO.1 hg' with e | e
    · obtain rfl : g = g' := by simpa [Value.ownBlock] using e
      rcases hat with e2 | e2
      · exact h.np g (mem_fpO.2 (.inl e2))
      · exact ⟨P.fresh (by omega), by omega⟩
    · rw [List.flatten_append, List.mem_append] at e
      rcases e with e | e
      · exact h.np g' (mem_fpO.2 (.inr e))
      · simp at e; exact ⟨(hbs g' e).2.1, (hbs g' e).1⟩
  · intro j p t hp ht
    obtain ⟨F', hF'⟩ := h.tr j p t hp ht
    refine ⟨F', hF'.to (fun g' h1 h2 => KS g' h2 fun e => ?_) fun g' h1 h2 => ⟨h1.1, h1.2.1, h1.2.2.1, h1.2.2.2.1, fun e => ?_⟩⟩
    · rcases e with e | e
      · exact h1.2.2.1 e
      · exact h1.2.2.2.2 e
    · obtain rfl : g = g' := by simpa [Value.ownBlock] using e
      rcases hat with e2 | e2
      · exact h1.2.2.2.2 e2
      · omega
  · intro p hp
    rcases List.mem_append.1 hp with hp | hp
    · exact h.sm p hp
    · simp at hp; subst hp; exact hsm

theorem MB.addKid {C : PC} {b i q n g cap : Nat} {w0 w w1 w2 W : World} {nv0 nv pv p kv' : Value} {va : Option Addr} {vc : Nat} {ns : List ByteArray} {at_ : Int} {vs : List Value} {pss : List (List Nat)} {kids : List ExT} {pats : List GPat} {t : ExT}
    (h : MB w0.heap.size q at_ nv w (.slice va n vc) pv vs pss kids pats) (hn : n = kids.length) (P : PS C b w i nv ns) (F : PF b w0 nv0 w nv) (h0 : b < w0.heap.size)
    (hT : ∃ F, ExR F (fun g => w0.heap.size ≤ g ∧ nv.ownBlock ≠ some g ∧ g ≠ q ∧ (Value.slice va n vc).ownBlock ≠ some g ∧ pv.ownBlock ≠ some g) w p t)
    (hB : Below w.heap.size w w1) (hgrow : w1.grownBy w2 (Value.slice va n vc).ownBlock) (hown : w2.ownsRow w0.heap.size 127 1 (.slice (some ⟨g, 0, none⟩) (n + 1) cap) (n + 1) (vs ++ [p]))
    (hat : (Value.slice va n vc).ownBlock = some g ∨ g = w1.heap.size) (hp' : kv' = .slice (some ⟨g, 0, none⟩) (n + 1) cap) (hW : W = w2.setCell ⟨q, 4, none⟩ kv') :
    PS C b W i nv ns ∧ PF b w0 nv0 W nv ∧ MB w0.heap.size q at_ nv W kv' pv (vs ++ [p]) pss (kids ++ [t]) pats := by
  subst hp' hW
  have hob := own_base h.kown
  have hF := F.size
  have hsz := hB.size
  have hlt := h.lt
  have hwq := h.hq
  have K6 := kept_of hgrow hB
  have hqo : ∀ g', (Value.slice va n vc).ownBlock = some g' → g' ≠ q := fun g' hg e => h.kq (e ▸ hg)
  have KS : Kept (fun k => k = q ∨ (Value.slice va n vc).ownBlock = some k) w (w2.setCell ⟨q, 4, none⟩ (.slice (some ⟨g, 0, none⟩) (n + 1) cap)) :=
    Kept.set (p := ⟨q, 4, none⟩) (fun k h1 h2 => K6 k h1 (fun e => h2 (.inr e.symm))) (.inl rfl) _
  have hgq : g ≠ q := by rcases hat with e | e; exact hqo g e; omega
  have hnq : ¬ some q = (Value.slice va n vc).ownBlock := fun e => hqo q e.symm rfl
  have hbq : Below b w (w2.setCell ⟨q, 4, none⟩ (.slice (some ⟨g, 0, none⟩) (n + 1) cap)) := by
    have := below_grown2 (wr := w) (base := w0.heap.size) hgrow hB (Below.refl _ w) hF h.kown
    exact ((this.mono (Nat.le_of_lt h0)).setCell (p := ⟨q, 4, none⟩) (by show b ≤ q; omega) _)
  have hSb : ∀ x, (x = q ∨ (Value.slice va n vc).ownBlock = some x) → w0.heap.size ≤ x := fun x hx => by
    rcases hx with rfl | hx
    · exact hwq
    · exact (hob x hx).1
  have hto : ∀ {F' : Nat} {p : Value} {t : ExT}, ExR F' (fun g => w0.heap.size ≤ g ∧ nv.ownBlock ≠ some g ∧ g ≠ q ∧ (Value.slice va n vc).ownBlock ≠ some g ∧ pv.ownBlock ≠ some g) w p t →
      ExR F' (fun g' => w0.heap.size ≤ g' ∧ nv.ownBlock ≠ some g' ∧ g' ≠ q ∧ (Value.slice (some ⟨g, 0, none⟩) (n + 1) cap).ownBlock ≠ some g' ∧ pv.ownBlock ≠ some g') (w2.setCell ⟨q, 4, none⟩ (.slice (some ⟨g, 0, none⟩) (n + 1) cap)) p t := fun hF' => by
    refine hF'.to (fun g' h1 h2 => KS g' h2 fun e => ?_) fun g' h1 h2 => ⟨h1.1, h1.2.1, h1.2.2.1, fun e => ?_, h1.2.2.2.2⟩
    · rcases e with e | e
      · exact h1.2.2.1 e
      · exact h1.2.2.2.1 e
    · obtain rfl : g = g' := by simpa [Value.ownBlock] using e
      rcases hat with e2 | e2
      · exact h1.2.2.2.1 e2
      · omega
  refine ⟨P.keep KS (fun e => by have := hSb b e; omega) (fun g' hg' e => ?_) hbq, F.keep KS hSb hbq, ⟨h.hq, h.nq, (h.row.kept K6 hnq).putAt (j := 4) (by simp) _, (h.wr.kept K6 hnq).set 4 _, ?_, h.pown.kept GPat.ok KS (fun g' hg' e => ?_), ?_, h.pq, ?_, h.pp, ?_, h.np, ?_, h.sm⟩⟩
  · rcases e with rfl | e
    · exact h.nq hg'
    · exact h.nk g' e hg'
  · rw [List.length_append, ← hn]
    exact own_kept hown ((Kept.refl (· = q) w2).set (p := ⟨q, 4, none⟩) rfl _) (fun g' hg' e => by
      obtain rfl : g = g' := by simpa [Value.ownBlock] using hg'
      exact hgq e)
  · rcases e with rfl | e
    · exact h.pq hg'
    · exact h.kp g' e hg'
  · intro e; exact hgq (by simpa [Value.ownBlock] using e)
  · intro g' hg' hm
    obtain rfl : g = g' := by simpa [Value.ownBlock] using hg'
    rcases hat with e2 | e2
    · exact h.kp g e2 hm
    · have := h.pown.lt GPat.ok g hm; omega
  · intro g' hg'
    obtain rfl : g = g' := by simpa [Value.ownBlock] using hg'
    rcases hat with e2 | e2
    · exact h.nk g e2
    · exact P.fresh (by omega)
  · intro j p' t' hp ht
    have hvl : vs.length = kids.length := by have := h.kown.1; omega
    rcases Nat.lt_or_ge j vs.length with hj | hj
    · rw [List.getElem?_append_left hj] at hp
      rw [List.getElem?_append_left (by omega)] at ht
      obtain ⟨F', hF'⟩ := h.tr j p' t' hp ht
      exact ⟨F', hto hF'⟩
    · rw [List.getElem?_append_right hj] at hp
      rw [List.getElem?_append_right (by omega)] at ht
      obtain ⟨F', hF'⟩ := hT
      cases hjj : j - vs.length with
      | zero =>
        rw [hjj] at hp
        rw [show j - kids.length = 0 by omega] at ht
        simp at hp ht; subst hp ht
        exact ⟨F', hto hF'⟩
      | succ m => rw [hjj] at hp; simp at hp
end Go.Proofs.YtaimekaagmcmnaaGreat
