/- Parts of the proof, merged: Dx3, Ev, Ev2. -/
import Derived.Test.YtnmmfcnkpcigoaaGreatDe34
/- DataExpr: the plain law. -/
namespace Go.Proofs.YtnmmfcnkpcigoaaGreat
open Go.RowKit
set_option linter.unusedVariables false
set_option linter.unusedSimpArgs false

/-! How many nodes a right value's tree has. -/
mutual
def nT : PxT → Nat
  | .mk _ _ _ ks => 1 + nTs ks
def nTs : List PxT → Nat
  | [] => 0
  | k :: ks => nT k + nTs ks
end
theorem nTs_map : ∀ (l : List PxT), nTs l = (l.map nT).sum
  | [] => by rw [nTs]; rfl
  | k :: l => by rw [nTs, nTs_map l]; rfl
theorem kidsEnd_nT {E : Nat → Int} {L : Int} (g : Nat → Nat) (hE : ∀ k, 0 ≤ E k → (k : Int) + 1 ≤ E k ∧ E k ≤ L) (hg : ∀ k, 0 ≤ E k → g k + k ≤ (E k).toNat) : ∀ (ks : List Int) (nx : Int), 0 ≤ nx → 0 ≤ kidsEnd E nx ks →
    (ks.map fun k => g k.toNat).sum + nx.toNat ≤ (kidsEnd E nx ks).toNat
  | [], nx, h0, h => by unfold kidsEnd; simp
  | k :: ks, nx, h0, h => by
    unfold kidsEnd at h ⊢
    split at h
    · omega
    · split at h
      · omega
      · rename_i h1 h2
        have e : k = nx := by omega
        subst e
        have h3 := hE k.toNat (by omega)
        have h4 := kidsEnd_nT g hE hg ks (E k.toNat) (by omega) h
        have h5 := hg k.toNat (by omega)
        rw [if_neg h1, if_neg h2]
        simp only [List.map_cons, List.sum_cons]
        omega
theorem nT_ends (l : List GDNode) : ∀ (F i f : Nat), 0 ≤ ends l F i → nT (treeOf l f i) + i ≤ (ends l F i).toNat
  | 0, i, f, h => by simp [ends] at h
  | F + 1, i, f, h => by
    have hr := ends_range l (F + 1) i h
    match f with
    | 0 =>
      have : nT (treeOf l 0 i) = 1 := by unfold treeOf; rw [nT, nTs]
      omega
    | f + 1 =>
      unfold ends at h ⊢
      cases hx : l[i]? with
      | none => rw [hx] at h; simp at h
      | some x =>
        rw [hx] at h
        have h1 := kidsEnd_nT (fun k => nT (treeOf l f k)) (ends_range l F) (fun k hk => nT_ends l F k f hk) x.kids (i + 1) (by omega) h
        rw [treeOf_some hx, nT, nTs_map, List.map_map]
        have e2 : (x.kids.map (nT ∘ fun k => treeOf l f k.toNat)) = x.kids.map fun k => nT (treeOf l f k.toNat) := rfl
        rw [e2]
        show _ ≤ (kidsEnd (ends l F) (i + 1) x.kids).toNat
        omega
theorem nT_data {d : GData} (h : dataOk d = true) : nT (treeOf d.nodes d.nodes.length 0) ≤ 600 := by
  obtain ⟨_, h0, h6⟩ := dataOk_up h
  unfold dataOk at h
  simp only [Bool.and_eq_true, decide_eq_true_eq] at h
  obtain ⟨h1, h2, _⟩ := h
  rw [show kidsAt d.nodes = (fun i => (d.nodes[i]?.map (·.kids)).getD []) from rfl, ← ends_eq] at h2
  have h3 := nT_ends d.nodes (d.nodes.length + 1) 0 d.nodes.length (by omega)
  rw [h2, Int.toNat_natCast] at h3
  omega

/-! What right values' trees are. -/
def DSh (t : PxT) : Prop := (t.kind = 2 ∧ t.n = 0 ∧ t.kids = []) ∨ (t.kind = 3 ∧ t.s = ⟨#[]⟩ ∧ t.kids = [] ∧ -4611686018427387904 ≤ t.n ∧ t.n ≤ 4611686018427387903) ∨ (t.kind = 6 ∧ t.n = 0 ∧ t.s = ⟨#[]⟩ ∧ t.kids = []) ∨ (t.kind = 5 ∧ t.n = 0 ∧ t.s = ⟨#[]⟩ ∧ t.kids.length = 2) ∨ (t.kind = 4 ∧ t.n = 0 ∧ t.kids.length ≤ 1)
def DOkS : Nat → PxT → Prop
  | 0, _ => False
  | f + 1, t => t.wf ∧ DSh t ∧ ∀ k ∈ t.kids, DOkS f k
theorem DOkS.dok : ∀ {f : Nat} {t : PxT}, DOkS f t → DOk f t
  | 0, _, h => h
  | f + 1, t, ⟨hw, h, hk⟩ => by
    refine ⟨?_, ?_, ?_, fun k hm => (hk k hm).dok⟩ <;> (rcases h with ⟨h1, h2, h3⟩ | ⟨h1, h2, h3, h4, h5⟩ | ⟨h1, h2, h3, h4⟩ | ⟨h1, h2, h3, h4⟩ | ⟨h1, h2, h3⟩)
    all_goals first | (simp [*]; done) | omega
theorem ba_nil {s : ByteArray} (h : s.toList.isEmpty = true) : s = ⟨#[]⟩ := by
  have h1 : s.data.toList = [] := by rw [← ByteArray.toList_eq]; exact List.isEmpty_iff.1 h
  have h2 : s.data = #[] := by rw [← Array.toList_inj]; exact h1
  cases s; simp only at h2; rw [h2]
theorem treeOf_doks (l : List GDNode) (hU : Up l) (hok : ∀ (j : Nat) x, l[j]? = some x → nodeOk l x = true) (hwf : ∀ (j : Nat) x, l[j]? = some x → x.wf) : ∀ (f i : Nat), i < l.length → l.length ≤ i + f → DOkS f (treeOf l f i)
  | 0, i, hi, hf => absurd hf (by omega)
  | f + 1, i, hi, hf => by
    obtain ⟨x, hx⟩ : ∃ x, l[i]? = some x := ⟨_, List.getElem?_eq_getElem hi⟩
    rw [treeOf_some hx]
    have hup := hU i x hx
    have hn := hok i x hx
    refine ⟨hwf i x hx, ?_, fun k hk => ?_⟩
    · obtain ⟨kd, nn, s, ks⟩ := x
      unfold DSh
      simp only [PxT.kind, PxT.kids, PxT.s, PxT.n] at *
      unfold nodeOk at hn
      dsimp only at hn
      split at hn
      · simp only [Bool.and_eq_true, beq_iff_eq, decide_eq_true_eq] at hn
        obtain ⟨h1, h2, h3⟩ := hn
        have : ks = [] := List.length_eq_zero_iff.1 (by omega)
        subst this
        exact .inr (.inl ⟨by assumption, ba_nil h2, rfl, h3⟩)
      · split at hn
        · simp only [Bool.and_eq_true, beq_iff_eq, decide_eq_true_eq] at hn
          have : ks = [] := List.length_eq_zero_iff.1 (by omega)
          subst this
          exact .inl ⟨by assumption, hn.2, rfl⟩
        · split at hn
          · simp only [Bool.and_eq_true, beq_iff_eq, decide_eq_true_eq] at hn
            have : ks = [] := List.length_eq_zero_iff.1 (by omega)
            subst this
            exact .inr (.inr (.inl ⟨by assumption, hn.2.1, ba_nil hn.2.2, rfl⟩))
          · split at hn
            · simp only [Bool.and_eq_true, beq_iff_eq, decide_eq_true_eq] at hn
              exact .inr (.inr (.inr (.inl ⟨by assumption, hn.2.1, ba_nil hn.2.2, by rw [List.length_map]; omega⟩)))
            · split at hn
              · simp only [Bool.and_eq_true, beq_iff_eq, decide_eq_true_eq] at hn
                have := conShape_le hn.2
                exact .inr (.inr (.inr (.inr ⟨by assumption, hn.1, by rw [List.length_map]; omega⟩)))
              · cases hn
    · obtain ⟨k', hk', rfl⟩ := List.mem_map.1 hk
      have := hup k' hk'
      exact treeOf_doks l hU hok hwf f k'.toNat (by omega) (by omega)

/-! The expression as the reference makes it. -/
mutual
def dExprS : PxT → ExT
  | .mk kd n s ks => if n < 0 then eNeg n else .mk (dKind kd) 0 n s (dExprSs ks) []
def dExprSs : List PxT → List ExT
  | [] => []
  | k :: ks => dExprS k :: dExprSs ks
end
theorem dExprS_mk (kd n : Int) (s : ByteArray) (ks : List PxT) : dExprS (.mk kd n s ks) = if n < 0 then eNeg n else .mk (dKind kd) 0 n s (dExprSs ks) [] := by rw [dExprS]
theorem dExprSs_map : ∀ (l : List PxT), dExprSs l = l.map dExprS
  | [] => by rw [dExprSs]; rfl
  | k :: l => by rw [dExprSs, dExprSs_map l]; rfl
mutual
theorem dExpr_some : ∀ (t : PxT) (x : ExT), dExpr t = some x → dExprS t = x
  | .mk kd n s ks, x, h => by
    rw [dExpr_mk] at h
    rw [dExprS_mk]
    split at h
    · rename_i hn
      rw [if_pos hn]
      split at h
      · cases h
      · exact Option.some.inj h
    · rename_i hn
      rw [if_neg hn]
      cases hk : dExprs ks with
      | none => rw [hk] at h; cases h
      | some xs =>
        rw [hk] at h
        rw [dExprs_some ks xs hk]
        exact Option.some.inj h
theorem dExprs_some : ∀ (l : List PxT) (xs : List ExT), dExprs l = some xs → dExprSs l = xs
  | [], xs, h => by rw [dExprs] at h; rw [dExprSs]; exact Option.some.inj h
  | k :: l, xs, h => by
    rw [dExprs] at h
    rw [dExprSs]
    cases hk : dExpr k with
    | none => rw [hk] at h; cases h
    | some y =>
      rw [hk] at h
      dsimp only at h
      cases hl : dExprs l with
      | none => rw [hl] at h; cases h
      | some ys =>
        rw [hl] at h
        rw [dExpr_some k y hk, dExprs_some l ys hl]
        exact Option.some.inj h
end
/-- A number that has no expression leaves its trace. -/
def MinAt (l : List GNode) : Prop := ∃ y ∈ l, y.kind = 1 ∧ y.n = 4611686018427387904
mutual
theorem dExpr_none : ∀ (t : PxT) (a : Nat), dExpr t = none → MinAt (layE a (dExprS t))
  | .mk kd n s ks, a, h => by
    rw [dExpr_mk] at h
    rw [dExprS_mk]
    split at h
    · rename_i hn
      rw [if_pos hn]
      split at h
      · rename_i hm
        subst hm
        refine ⟨⟨1, 0, 4611686018427387904, ⟨#[]⟩, [], []⟩, ?_, rfl, rfl⟩
        simp [eNeg, eLeaf, layE, layEs, plE]
      · cases h
    · rename_i hn
      rw [if_neg hn, layE_mk]
      cases hk : dExprs ks with
      | none =>
        obtain ⟨y, hy, h1⟩ := dExprs_none ks (a + 1) hk
        exact ⟨y, List.mem_cons_of_mem _ hy, h1⟩
      | some xs => rw [hk] at h; cases h
theorem dExprs_none : ∀ (l : List PxT) (a : Nat), dExprs l = none → MinAt (layEs a (dExprSs l))
  | [], a, h => by rw [dExprs] at h; cases h
  | k :: l, a, h => by
    rw [dExprs] at h
    rw [dExprSs, layEs]
    cases hk : dExpr k with
    | none =>
      obtain ⟨y, hy, h1⟩ := dExpr_none k a hk
      exact ⟨y, List.mem_append_left _ hy, h1⟩
    | some x =>
      rw [hk] at h
      dsimp only at h
      cases hl : dExprs l with
      | none =>
        obtain ⟨y, hy, h1⟩ := dExprs_none l (a + szE (dExprS k)) hl
        exact ⟨y, List.mem_append_right _ hy, h1⟩
      | some xs => rw [hl] at h; cases h
end
theorem minAt_bad {Ts : List GType} {N : List GNode} (h : MinAt N) : progOk ⟨Ts, N⟩ = false := by
  obtain ⟨y, hy, h1, h2⟩ := h
  have hb : nodOk N y = false := by
    unfold nodOk nodBody
    rw [if_pos h1, h2]
    simp
  have ha : N.all (nodOk N) = false := by
    rw [List.all_eq_false]
    exact ⟨y, hy, by rw [hb]; simp⟩
  unfold progOk shapeP
  dsimp only
  rw [ha]
  simp
mutual
theorem szE_dExprS : ∀ (t : PxT), szE (dExprS t) ≤ 3 * nT t
  | .mk kd n s ks => by
    rw [dExprS_mk, nT]
    split
    · have : szE (eNeg n) = 3 := by simp [eNeg, eLeaf, szE, szEs]
      omega
    · rw [szE_mk]
      have := szEs_dExprSs ks
      omega
theorem szEs_dExprSs : ∀ (l : List PxT), szEs (dExprSs l) ≤ 3 * nTs l
  | [] => by rw [dExprSs, szEs]; omega
  | k :: l => by
    rw [dExprSs, szEs, nTs]
    have := szE_dExprS k
    have := szEs_dExprSs l
    omega
end
/-! None of the nodes has patterns. -/
mutual
theorem layE_nopats : ∀ (t : PxT) (a : Nat), ∀ y ∈ layE a (dExprS t), y.pats = []
  | .mk kd n s ks, a => by
    rw [dExprS_mk]
    split
    · intro y hy
      simp [eNeg, eLeaf, layE, layEs, plE] at hy
      rcases hy with rfl | rfl | rfl <;> rfl
    · rw [layE_mk]
      intro y hy
      rcases List.mem_cons.1 hy with rfl | h
      · rfl
      · exact layEs_nopats ks _ y h
theorem layEs_nopats : ∀ (l : List PxT) (a : Nat), ∀ y ∈ layEs a (dExprSs l), y.pats = []
  | [], a => by rw [dExprSs, layEs]; intro y hy; cases hy
  | k :: l, a => by
    rw [dExprSs, layEs]
    intro y hy
    rcases List.mem_append.1 hy with h | h
    · exact layE_nopats k a y h
    · exact layEs_nopats l _ y h
end
/-- The program of a value. -/
def dNodes (d : GData) : List GNode := layE 0 (dExprS (treeOf d.nodes d.nodes.length 0))
def dataExprP (d : GData) : Bool := dataOk d && progOk ⟨[], dNodes d⟩
theorem dNodes_sm (d : GData) (h : dataOk d = true) : ProgSm ⟨[], dNodes d⟩ ∧ (dNodes d).length ≤ 1800 := by
  have h1 := nT_data h
  have h2 := szE_dExprS (treeOf d.nodes d.nodes.length 0)
  have h3 : (dNodes d).length ≤ 1800 := by unfold dNodes; rw [layE_len]; omega
  refine ⟨⟨by show (dNodes d).length ≤ _; omega, Nat.zero_le _, (fun t ht => by cases ht), fun x hx => ?_⟩, h3⟩
  have := layE_nopats _ _ x hx
  unfold nodeSm
  rw [this]
  exact ⟨Nat.zero_le _, fun q hq => by cases hq⟩
theorem dataExpr_good {d : GData} {x : ExT} (h : dExpr (treeOf d.nodes d.nodes.length 0) = some x) : layE 0 x = dNodes d := by
  unfold dNodes; rw [dExpr_some _ _ h]
theorem dataExpr_bad {d : GData} (h : dExpr (treeOf d.nodes d.nodes.length 0) = none) : dataExprP d = false := by
  unfold dataExprP dNodes
  rw [minAt_bad (dExpr_none _ 0 h)]
  simp
end Go.Proofs.YtnmmfcnkpcigoaaGreat

/- Expressions by value (the reference's): how they read. -/
namespace Go.Proofs.YtnmmfcnkpcigoaaGreat
open Go.RowKit
set_option linter.unusedVariables false
set_option linter.unusedSimpArgs false
attribute [local go_sem] Ext.cell

/-- The cells r are an expression of at most f levels; each block that it leads to is in S. -/
def EV : Nat → (Nat → Prop) → World → List Value → ExT → Prop
  | 0, _, _, _, _ => False
  | f + 1, S, w, r, t => ∃ na nn nc pv bs a cap, r = [.int .i64 t.kind, .int .i64 t.at_, .int .i64 t.n, .string t.s, .slice na nn nc, pv, .slice a t.kids.length cap] ∧ t.wf ∧
      SlO 105 1 GPat.O bs w pv t.pats ∧ (∀ q ∈ bs, S q) ∧ t.kids.length ≤ cap ∧ cap ≤ 9223372036854775807 ∧
      (0 < t.kids.length → ∃ g off, a = some ⟨g, off, none⟩ ∧ S g ∧ ∀ i k, t.kids[i]? = some k → ∃ r', RowAt w g (off + i * 7) r' ∧ EV f S w r' k)
theorem EV.to : ∀ {f : Nat} {S S' : Nat → Prop} {w w' : World} {r : List Value} {t : ExT}, EV f S w r t → Same S w w' → (∀ b, S b → b < w.heap.size → S' b) → EV f S' w' r t
  | 0, _, _, _, _, _, _, h, _, _ => h
  | f + 1, S, S', w, w', r, t, ⟨na, nn, nc, pv, bs, a, cap, hr, hwf, hp, hbs, h1, h2, h3⟩, hs, hi =>
    ⟨na, nn, nc, pv, bs, a, cap, hr, hwf, hp.loc GPat.ok (fun q hq => hs q (hbs q hq) (hp.lt GPat.ok q hq)), fun q hq => hi q (hbs q hq) (hp.lt GPat.ok q hq), h1, h2, fun h0 =>
      let ⟨g, off, ha, hg, hk⟩ := h3 h0
      ⟨g, off, ha, by
        obtain ⟨k, hk0⟩ : ∃ k, t.kids[0]? = some k := ⟨_, List.getElem?_eq_getElem h0⟩
        obtain ⟨r', hr', hE⟩ := hk 0 k hk0
        have : ∃ c, r'[0]? = some c := by
          cases f with
          | zero => exact absurd hE (by simp [EV])
          | succ f => obtain ⟨_, _, _, _, _, _, _, e, _⟩ := hE; exact ⟨_, by rw [e]; rfl⟩
        obtain ⟨c, hc⟩ := this
        exact hi g hg (World.block_lt_of_cell? w _ (hr' 0 c hc)), fun i k hik =>
          let ⟨r', hr', hE⟩ := hk i k hik
          ⟨r', fun j c hc => hs.cell hg (hr' j c hc), hE.to hs hi⟩⟩⟩
theorem EV.below {f : Nat} {S : Nat → Prop} {w w' : World} {r : List Value} {t : ExT} (h : EV f S w r t) (hb : Below w.heap.size w w') : EV f S w' r t := h.to (Same.below hb) fun _ h _ => h
theorem EV.kept {f : Nat} {S K : Nat → Prop} {w w' : World} {r : List Value} {t : ExT} (h : EV f S w r t) (hk : Kept K w w') (hS : ∀ b, S b → ¬ K b) : EV f S w' r t :=
  h.to (fun b h1 h2 => hk b h2 (hS b h1)) fun _ h _ => h
theorem EV.up : ∀ {f : Nat} {S : Nat → Prop} {w : World} {r : List Value} {t : ExT}, EV f S w r t → EV (f + 1) S w r t
  | 0, _, _, _, _, h => absurd h (by simp [EV])
  | f + 1, S, w, r, t, ⟨na, nn, nc, pv, bs, a, cap, hr, hwf, hp, hbs, h1, h2, h3⟩ => ⟨na, nn, nc, pv, bs, a, cap, hr, hwf, hp, hbs, h1, h2, fun h0 =>
      let ⟨g, off, ha, hg, hk⟩ := h3 h0
      ⟨g, off, ha, hg, fun i k hik => let ⟨r', hr', hE⟩ := hk i k hik; ⟨r', hr', hE.up⟩⟩⟩
theorem EV.mono {f g : Nat} {S : Nat → Prop} {w : World} {r : List Value} {t : ExT} (h : EV f S w r t) (hfg : f ≤ g) : EV g S w r t := by
  induction g with
  | zero => obtain rfl : f = 0 := by omega
            exact h
  | succ g ih =>
    by_cases e : f = g + 1
    · exact e ▸ h
    · exact (ih (by omega)).up
theorem EV.form {f : Nat} {S : Nat → Prop} {w : World} {r : List Value} {t : ExT} (h : EV f S w r t) : ∃ na nn nc pa pc a c, r = [.int .i64 t.kind, .int .i64 t.at_, .int .i64 t.n, .string t.s, .slice na nn nc, .slice pa t.pats.length pc, .slice a t.kids.length c] := by
  cases f with
  | zero => exact absurd h (by simp [EV])
  | succ f =>
    obtain ⟨na, nn, nc, pv, bs, a, cap, hr, hwf, hp, _⟩ := h
    obtain ⟨pa, pc, rfl⟩ := hp.form
    exact ⟨na, nn, nc, pa, pc, a, cap, hr⟩
end Go.Proofs.YtnmmfcnkpcigoaaGreat

/- The reference's l03One: a node with children, by value. -/
namespace Go.Proofs.YtnmmfcnkpcigoaaGreat
open Go.RowKit
set_option linter.unusedVariables false
set_option linter.unusedSimpArgs false
attribute [local go_sem] Ext.cell

set_option maxRecDepth 100000 in
set_option maxHeartbeats 4000000 in
theorem l03One_c (k a : Int) (s : ByteArray) (ka : Option Addr) (n c : Nat) (w : World) :
    Calls Tryz.prog 36 #[.int .i64 k, .int .i64 a, .string s, .slice ka n c] w fun e w' => e = .returned (.agg #[.int .i64 k, .int .i64 a, .int .i64 0, .string s, .slice none 0 0, .slice none 0 0, .slice ka n c]) ∧ Below w.heap.size w w' := by
  go_enter Tryz.func36, Tryz.ntmps36
  go_wp2_with fail
  go_returns
  exact ⟨rfl, by go_grown⟩
end Go.Proofs.YtnmmfcnkpcigoaaGreat
