/- Parts of the proof, merged: ExR, Flt, GrowData, Dx. -/
import Derived.Deep.RegionHeld3
import Derived.Deep.RegionLaw
import Derived.Test.YtaimekaagmcmnaaGreatNe13
/- Expressions as trees behind pointers: how they read; a program's nodes with their blocks. -/
namespace Go.Proofs.YtaimekaagmcmnaaGreat
open Go.RowKit
set_option linter.unusedVariables false
set_option linter.unusedSimpArgs false
attribute [local go_sem] Ext.cell

def GNode.O : FootR GNode := fun bs w r x => ∃ (u0 : Value) (p0 : List Nat) (u1 : Value) (p1 : List Nat), r = [.int .i64 x.kind, .int .i64 x.at_, .int .i64 x.n, .string x.s, u0, u1] ∧ bs = p0 ++ p1 ∧ x.wf ∧ SlO 3 1 (FlatO intRow I64) p0 w u0 x.kids ∧ SlO 83 1 GPat.O p1 w u1 x.pats
theorem GNode.ok : FootOk GNode.O GNode.R where
  loc := fun ⟨u0, p0, u1, p1, hr, hb, hwf, s0, s1⟩ hs => ⟨u0, p0, u1, p1, hr, hb, hwf, s0.loc (flatO_ok flatInt) (fun b h => hs b (by rw [hb]; simp [h])), s1.loc GPat.ok (fun b h => hs b (by rw [hb]; simp [h]))⟩
  lt := fun ⟨u0, p0, u1, p1, hr, hb, hwf, s0, s1⟩ b h => by
    rw [hb] at h
    rcases List.mem_append.1 h with h | h
    · exact s0.lt (flatO_ok flatInt) b h
    · exact s1.lt GPat.ok b h
  read := fun ⟨u0, p0, u1, p1, hr, hb, hwf, s0, s1⟩ hlo => ⟨u0, u1, hr, hwf, s0.sl (flatO_ok flatInt) (fun b h => hlo b (by rw [hb]; simp [h])), s1.sl GPat.ok (fun b h => hlo b (by rw [hb]; simp [h]))⟩

def PatsSm (l : List GPat) : Prop := l.length ≤ 1048576 ∧ ∀ q ∈ l, PatSmall q
theorem PatsSm.nil : PatsSm [] := ⟨Nat.zero_le _, fun q h => by cases h⟩

def ExR : Nat → (Nat → Prop) → World → Value → ExT → Prop
  | 0, _, _, _, _ => False
  | f + 1, S, w, v, t => ∃ b a cap pv bs, v = .pointer (some ⟨b, 0, none⟩) ∧ S b ∧ t.wf ∧ PatsSm t.pats ∧ RowAt w b 0 [.int .i64 t.kind, .int .i64 t.at_, .int .i64 t.n, .string t.s, .slice a t.kids.length cap, pv] ∧
      SlO 83 1 GPat.O bs w pv t.pats ∧ (∀ q ∈ bs, S q) ∧ t.kids.length ≤ cap ∧ cap ≤ 9223372036854775807 ∧
      (0 < t.kids.length → ∃ g off, a = some ⟨g, off, none⟩ ∧ S g ∧ ∀ i k, t.kids[i]? = some k → ∃ p, w.cell? ⟨g, off + i, none⟩ = some p ∧ ExR f S w p k)

theorem ExR.to : ∀ {f : Nat} {S S' : Nat → Prop} {w w' : World} {v : Value} {t : ExT}, ExR f S w v t → Same S w w' → (∀ b, S b → b < w.heap.size → S' b) → ExR f S' w' v t
  | 0, _, _, _, _, _, _, h, _, _ => h
  | f + 1, S, S', w, w', v, t, ⟨b, a, cap, pv, bs, hv, hS, hwf, hps, hr, hp, hbs, h1, h2, h3⟩, hs, hi =>
    ⟨b, a, cap, pv, bs, hv, hi b hS (World.block_lt_of_cell? w _ (hr 0 _ rfl)), hwf, hps, fun j c hc => hs.cell hS (hr j c hc), hp.loc GPat.ok (fun q hq => hs q (hbs q hq) (hp.lt GPat.ok q hq)), fun q hq => hi q (hbs q hq) (hp.lt GPat.ok q hq), h1, h2, fun h0 =>
      let ⟨g, off, ha, hg, hk⟩ := h3 h0
      ⟨g, off, ha, by
        obtain ⟨k, hk0⟩ : ∃ k, t.kids[0]? = some k := ⟨_, List.getElem?_eq_getElem h0⟩
        obtain ⟨p, hp, _⟩ := hk 0 k hk0
        exact hi g hg (World.block_lt_of_cell? w _ hp), fun i k hik =>
          let ⟨p, hp, hR⟩ := hk i k hik
          ⟨p, hs.cell hg hp, hR.to hs hi⟩⟩⟩
theorem ExR.below {f : Nat} {S : Nat → Prop} {w w' : World} {v : Value} {t : ExT} (h : ExR f S w v t) (hb : Below w.heap.size w w') : ExR f S w' v t := h.to (Same.below hb) fun _ h _ => h
theorem ExR.kept {f : Nat} {S K : Nat → Prop} {w w' : World} {v : Value} {t : ExT} (h : ExR f S w v t) (hk : Kept K w w') (hS : ∀ b, S b → ¬ K b) : ExR f S w' v t :=
  h.to (fun b h1 h2 => hk b h2 (hS b h1)) fun _ h _ => h
theorem ExR.form {f : Nat} {S : Nat → Prop} {w : World} {v : Value} {t : ExT} (h : ExR f S w v t) : ∃ b, v = .pointer (some ⟨b, 0, none⟩) := by
  cases f with
  | zero => exact absurd h (by simp [ExR])
  | succ f => obtain ⟨b, _, _, _, _, hv, _⟩ := h; exact ⟨b, hv⟩
theorem ExR.up : ∀ {f : Nat} {S : Nat → Prop} {w : World} {v : Value} {t : ExT}, ExR f S w v t → ExR (f + 1) S w v t
  | 0, _, _, _, _, h => absurd h (by simp [ExR])
  | f + 1, S, w, v, t, ⟨b, a, cap, pv, bs, hv, hS, hwf, hps, hr, hp, hbs, h1, h2, h3⟩ => ⟨b, a, cap, pv, bs, hv, hS, hwf, hps, hr, hp, hbs, h1, h2, fun h0 =>
      let ⟨g, off, ha, hg, hk⟩ := h3 h0
      ⟨g, off, ha, hg, fun i k hik => let ⟨p, hp, hR⟩ := hk i k hik; ⟨p, hp, hR.up⟩⟩⟩
theorem ExR.mono {f g : Nat} {S : Nat → Prop} {w : World} {v : Value} {t : ExT} (h : ExR f S w v t) (hfg : f ≤ g) : ExR g S w v t := by
  induction g with
  | zero => obtain rfl : f = 0 := by omega
            exact h
  | succ g ih =>
    by_cases e : f = g + 1
    · exact e ▸ h
    · exact (ih (by omega)).up

structure OwnN (lo : Nat) (w : World) (v : Value) (pss : List (List Nat)) (xs : List GNode) : Prop where
  grow : GrowO 74 6 GNode.O lo w v pss xs
  nd : (fpO v pss).Nodup
  lo : ∀ b ∈ fpO v pss, lo ≤ b
theorem OwnN.lt {lo : Nat} {w : World} {v : Value} {pss : List (List Nat)} {xs : List GNode} (h : OwnN lo w v pss xs) : ∀ b ∈ fpO v pss, b < w.heap.size := h.grow.lt GNode.ok
theorem OwnN.below {lo : Nat} {w w' : World} {v : Value} {pss : List (List Nat)} {xs : List GNode} (h : OwnN lo w v pss xs) (hb : Below w.heap.size w w') : OwnN lo w' v pss xs := ⟨h.grow.below GNode.ok hb, h.nd, h.lo⟩
theorem OwnN.kept {lo : Nat} {w w' : World} {v : Value} {pss : List (List Nat)} {xs : List GNode} {S : Nat → Prop} (h : OwnN lo w v pss xs) (hk : Kept S w w') (hS : ∀ b ∈ fpO v pss, ¬ S b) : OwnN lo w' v pss xs := ⟨h.grow.kept GNode.ok hk hS, h.nd, h.lo⟩
theorem OwnN.nil {lo : Nat} {w : World} : OwnN lo w (.slice none 0 0) [] [] := ⟨GrowO.nil, by simp [fpO, Value.ownBlock], fun b hb => by simp [fpO, Value.ownBlock] at hb⟩
theorem OwnN.form {lo : Nat} {w : World} {v : Value} {pss : List (List Nat)} {xs : List GNode} (h : OwnN lo w v pss xs) : ∃ a c, v = .slice a xs.length c := h.grow.form
theorem RowsO.set2 {α : Type} {O : FootR α} {R : Reading α} {sz : Nat} {w w' : World} {ps : List (List Nat)} {rows : List (List Value)} {xs : List α} {S : Nat → Prop} (F : FootOk O R) (h : RowsO O sz w ps rows xs) (i : Nat) {p : List Nat} {r : List Value} {x : α} (hr : r.length = sz) (ho : O p w' r x)
    (hk : Kept S w w') (hS : ∀ b ∈ ps.flatten, ¬ S b) : RowsO O sz w' (ps.set i p) (rows.set i r) (xs.set i x) := by
  have hK := h.kept F hk hS
  refine ⟨by simp [h.lp], by simp [h.lr], fun y hy => ?_, fun j q s y h1 h2 h3 => ?_⟩
  · rcases List.mem_or_eq_of_mem_set hy with h1 | h1
    · exact h.wide y h1
    · rw [h1]; exact hr
  · by_cases e : i = j
    · subst e
      have hlt : i < xs.length := by have := (List.getElem?_eq_some_iff.1 h3).1; simpa using this
      rw [List.getElem?_set_self (by rw [h.lp]; exact hlt)] at h1
      rw [List.getElem?_set_self (by rw [h.lr]; exact hlt)] at h2
      rw [List.getElem?_set_self hlt] at h3
      obtain rfl := Option.some.inj h1
      obtain rfl := Option.some.inj h2
      obtain rfl := Option.some.inj h3
      exact ho
    · rw [List.getElem?_set_ne e] at h1 h2 h3
      exact hK.elt j q s y h1 h2 h3
theorem set_split {α : Type} {l : List α} {i : Nat} {x : α} (h : l[i]? = some x) : ∃ a b, l = a ++ x :: b ∧ a.length = i ∧ ∀ y, l.set i y = a ++ y :: b := by
  obtain ⟨hi, hx⟩ := List.getElem?_eq_some_iff.1 h
  refine ⟨l.take i, l.drop (i + 1), ?_, by rw [List.length_take]; omega, fun y => ?_⟩
  · conv => lhs; rw [← List.take_append_drop i l, List.drop_eq_getElem_cons hi, hx]
  · rw [List.set_eq_take_append_cons_drop, if_pos hi]
theorem OwnN.setKids {lo n : Nat} {w : World} {gv cap m : Nat} {pss : List (List Nat)} {xs : List GNode} {x : GNode} (h : OwnN lo w (.slice (some ⟨gv, 0, none⟩) m cap) pss xs) (hm : m = xs.length) (hx : xs[n]? = some x)
    {kv : Value} {ks : List Int} {kb : List Nat} (hk : SlO 3 1 (FlatO intRow I64) kb w kv ks) (hkn : kb.Nodup) (hkl : ∀ b ∈ kb, lo ≤ b) (hkf : ∀ b ∈ kb, b ∉ fpO (.slice (some ⟨gv, 0, none⟩) m cap) pss) :
    (∃ c, w.cell? ⟨gv, n * 6 + 4, none⟩ = some c ∧ w.frozen? ⟨gv, n * 6 + 4, none⟩ = false) ∧
    ∃ pss', OwnN lo (w.setCell ⟨gv, n * 6 + 4, none⟩ kv) (.slice (some ⟨gv, 0, none⟩) m cap) pss' (xs.set n ⟨x.kind, x.at_, x.n, x.s, ks, x.pats⟩) ∧ ∀ b ∈ fpO (.slice (some ⟨gv, 0, none⟩) m cap) pss', b ∈ fpO (.slice (some ⟨gv, 0, none⟩) m cap) pss ∨ b ∈ kb := by
  subst hm
  obtain ⟨⟨rows, hown, hrows⟩, hnd, hlo⟩ := h
  obtain ⟨p, r, hp, hr, hrl, u0, p0, u1, p1, he, hbs, hwf, s0, s1⟩ := hrows.at hx
  have M0 := MidO.start hown hrows.wide hrows.lr hr
  have hr4 : r[4]? = some u0 := by rw [he]; rfl
  refine ⟨⟨u0, M0.cell (t := 4) rfl hr4⟩, ?_⟩
  have M1 := M0.set (t := 4) (off := n * 6 + 4) (by omega) rfl kv
  have hK : Kept (· = gv) w (w.setCell ⟨gv, n * 6 + 4, none⟩ kv) := Kept.set (S := (· = gv)) (p := ⟨gv, n * 6 + 4, none⟩) (Kept.refl _ _) rfl _
  rw [fpO_slice] at hnd hlo hkf
  rw [List.nodup_cons] at hnd
  have hgp : ∀ b ∈ pss.flatten, ¬ b = gv := fun b hb e => hnd.1 (e ▸ hb)
  have hgk : ∀ b ∈ kb, ¬ b = gv := fun b hb e => hkf b hb (by simp [e])
  have hpm : ∀ b ∈ p, b ∈ pss.flatten := fun b hb => List.mem_flatten.2 ⟨p, List.mem_of_getElem? hp, hb⟩
  have hO : GNode.O (kb ++ p1) (w.setCell ⟨gv, n * 6 + 4, none⟩ kv) (r.set 4 kv) ⟨x.kind, x.at_, x.n, x.s, ks, x.pats⟩ :=
    ⟨kv, kb, u1, p1, by rw [he]; rfl, rfl, hwf, hk.kept (flatO_ok flatInt) hK hgk, s1.kept GPat.ok hK fun b hb => hgp b (hpm b (by rw [hbs]; simp [hb]))⟩
  refine ⟨pss.set n (kb ++ p1), ⟨⟨rows.set n (r.set 4 kv), by rw [List.length_set]; exact M1.own, hrows.set2 GNode.ok n (by rw [List.length_set]; exact hrl) hO hK hgp⟩, ?_, ?_⟩, ?_⟩
  · rw [fpO_slice, List.nodup_cons]
    obtain ⟨l1, l2, rfl, -, hset⟩ := set_split hp
    rw [hset]
    have hN := hnd.2
    rw [List.flatten_append, List.flatten_cons, hbs] at hN
    have hsub : (l1.flatten ++ (p1 ++ l2.flatten)).Nodup := hN.sublist (List.Sublist.append (List.Sublist.refl _) (List.Sublist.append (List.sublist_append_right p0 p1) (List.Sublist.refl _)))
    have hmem : ∀ b ∈ l1.flatten ++ (p1 ++ l2.flatten), b ∈ (l1 ++ p :: l2).flatten := fun b hb => by
      rw [List.flatten_append, List.flatten_cons, hbs]
      rcases List.mem_append.1 hb with h1 | h1
      · simp [h1]
      · rcases List.mem_append.1 h1 with h2 | h2
        · simp [h2]
        · simp [h2]
    have hall : (kb ++ (l1.flatten ++ (p1 ++ l2.flatten))).Nodup := List.nodup_append.2 ⟨hkn, hsub, fun a ha b hb e => hkf a ha (List.mem_cons_of_mem _ (hmem a (e ▸ hb)))⟩
    have hperm : (l1 ++ (kb ++ p1) :: l2).flatten.Perm (kb ++ (l1.flatten ++ (p1 ++ l2.flatten))) := by
      rw [List.flatten_append, List.flatten_cons, List.append_assoc]
      exact List.perm_append_comm_assoc _ _ _
    refine ⟨fun h => ?_, hperm.nodup_iff.2 hall⟩
    rcases List.mem_append.1 (hperm.mem_iff.1 h) with h1 | h1
    · exact hgk gv h1 rfl
    · exact hgp gv (hmem gv h1) rfl
  · rw [fpO_slice]
    obtain ⟨l1, l2, rfl, -, hset⟩ := set_split hp
    rw [hset]
    intro b hb
    rw [List.flatten_append, List.flatten_cons] at hb
    rcases List.mem_cons.1 hb with h1 | h1
    · exact hlo b (by simp [h1])
    · rcases List.mem_append.1 h1 with h2 | h2
      · exact hlo b (by rw [List.flatten_append]; simp [h2])
      · rcases List.mem_append.1 h2 with h3 | h3
        · rcases List.mem_append.1 h3 with h4 | h4
          · exact hkl b h4
          · exact hlo b (List.mem_cons_of_mem _ (hpm b (by rw [hbs]; simp [h4])))
        · exact hlo b (by rw [List.flatten_append, List.flatten_cons]; simp [h3])
  · rw [fpO_slice, fpO_slice]
    obtain ⟨l1, l2, rfl, -, hset⟩ := set_split hp
    rw [hset]
    intro b hb
    rw [List.flatten_append, List.flatten_cons] at hb
    rcases List.mem_cons.1 hb with h1 | h1
    · exact .inl (by simp [h1])
    · rcases List.mem_append.1 h1 with h2 | h2
      · exact .inl (by rw [List.flatten_append]; simp [h2])
      · rcases List.mem_append.1 h2 with h3 | h3
        · rcases List.mem_append.1 h3 with h4 | h4
          · exact .inr h4
          · exact .inl (List.mem_cons_of_mem _ (hpm b (by rw [hbs]; simp [h4])))
        · exact .inl (by rw [List.flatten_append, List.flatten_cons]; simp [h3])
end Go.Proofs.YtaimekaagmcmnaaGreat

/- The program's flat: an expression behind pointers laid into a list of nodes. -/
namespace Go.Proofs.YtaimekaagmcmnaaGreat
open Go.RowKit
set_option linter.unusedVariables false
set_option linter.unusedSimpArgs false
attribute [local go_sem] Ext.cell

theorem info_Node : (Tryz.prog.info? 74).map (fun i => (i.zero, i.size, i.bytes)) = some (some (.agg #[.int .i64 0, .int .i64 0, .int .i64 0, .string ⟨#[]⟩, .slice none 0 0, .slice none 0 0]), 6, 88) := by kernel_rfl
theorem info_intE : (Tryz.prog.info? 3).map (fun i => (i.zero, i.size, i.bytes)) = some (some (.int .i64 0), 1, 8) := by kernel_rfl

structure NStep (lo : Nat) (w : World) (v : Value) (pss : List (List Nat)) (w' : World) (v' : Value) (pss' : List (List Nat)) (xs' : List GNode) : Prop where
  own : OwnN lo w' v' pss' xs'
  below : Below lo w w'
  kept : Kept (fun q => v.ownBlock = some q) w w'
  blk : ∀ q, v'.ownBlock = some q → v.ownBlock = some q ∨ w.heap.size ≤ q
  new : ∀ b ∈ fpO v' pss', b ∈ fpO v pss ∨ w.heap.size ≤ b
theorem NStep.trans {lo : Nat} {w w1 w2 : World} {v v1 v2 : Value} {pss p1 p2 : List (List Nat)} {x1 x2 : List GNode} (h : NStep lo w v pss w1 v1 p1 x1) (k : NStep lo w1 v1 p1 w2 v2 p2 x2) : NStep lo w v pss w2 v2 p2 x2 := by
  have hs := h.below.size
  refine ⟨k.own, h.below.trans k.below, fun q h1 h2 => (k.kept q (by omega) fun h3 => ?_).trans (h.kept q h1 h2), fun q hq => ?_, fun b hb => ?_⟩
  · rcases h.blk q h3 with h4 | h4
    · exact h2 h4
    · omega
  · rcases k.blk q hq with h3 | h3
    · exact h.blk q h3
    · exact .inr (by omega)
  · rcases k.new b hb with h3 | h3
    · exact h.new b h3
    · exact .inr (by omega)
theorem NStep.refl {lo : Nat} {w : World} {v : Value} {pss : List (List Nat)} {xs : List GNode} (h : OwnN lo w v pss xs) : NStep lo w v pss w v pss xs := ⟨h, Below.refl _ _, Kept.refl _ _, fun q h => .inl h, fun b h => .inl h⟩
theorem OwnF.slO2 {α : Type} {R : Reading α} {sz : Nat} {f : α → List Value} {wf : α → Prop} {e : TypeId} {lo : Nat} {w : World} {v : Value} {xs : List α} (F : Flat R sz f wf) (h : OwnF e sz f wf lo w v xs) :
    ∃ bs, SlO e sz (FlatO f wf) bs w v xs ∧ bs.Nodup ∧ ∀ b ∈ bs, v.ownBlock = some b := by
  have hp : (xs.map fun _ => ([] : List Nat)).flatten = [] := by
    induction xs with
    | nil => rfl
    | cons x xs ih => simp
  have hG : GrowO e sz (FlatO f wf) lo w v (xs.map fun _ => []) xs := ⟨xs.map f, h.1, ⟨by simp, by simp, fun r hr => by obtain ⟨x, _, rfl⟩ := List.mem_map.1 hr; exact F.len x, fun i p r x h1 h2 h3 => by
    rw [List.getElem?_map, h3] at h1 h2
    simp at h1 h2
    exact ⟨by first | exact h1 | exact h1.symm, by first | exact h2 | exact h2.symm, h.2 x (List.mem_of_getElem? h3)⟩⟩⟩
  refine ⟨_, hG.slO, ?_, fun b hb => ?_⟩
  · unfold fpO
    rw [hp, List.append_nil]
    cases v.ownBlock with
    | none => exact List.nodup_nil
    | some g => simp
  · rw [mem_fpO, hp] at hb
    rcases hb with hb | hb
    · exact hb
    · cases hb

theorem OwnN.push {lo n g cap : Nat} {w w1 w2 : World} {v pv : Value} {pss : List (List Nat)} {rows : List (List Value)} {xs : List GNode} {bs : List Nat} {kd at_ nn : Int} {s : ByteArray} {ps : List GPat} {cs : Array Value} {T : TypeId}
    (hO : OwnN lo w v pss xs) (hlo : lo ≤ w.heap.size) (hown0 : w.ownsRow lo 74 6 v n rows.flatten) (hrows : RowsO GNode.O 6 w pss rows xs) (hn : n = xs.length)
    (hb : Below w.heap.size w w1) (hwf : I64 kd ∧ I64 at_ ∧ I64 nn ∧ StrOk s) (hp : SlO 83 1 GPat.O bs w1 pv ps) (hpn : bs.Nodup) (hpf : ∀ b ∈ bs, w.heap.size ≤ b)
    (hgrow : (w1.alloc (.cells cs T)).grownBy w2 v.ownBlock) (hown : w2.ownsRow lo 74 6 (.slice (some ⟨g, 0, none⟩) (n + 1) cap) (n + 1) (rows.flatten ++ [.int .i64 kd, .int .i64 at_, .int .i64 nn, .string s, .slice none 0 0, pv]))
    (hat : v.ownBlock = some g ∨ g = (w1.alloc (.cells cs T)).heap.size) :
    NStep lo w v pss w2 (.slice (some ⟨g, 0, none⟩) (n + 1) cap) (pss ++ [bs]) (xs ++ [⟨kd, at_, nn, s, [], ps⟩]) := by
  have hs := hb.size
  have hsA : (w1.alloc (.cells cs T)).heap.size = w1.heap.size + 1 := by simp
  rw [hsA] at hat
  have hlt := hO.lt
  have hbA : Below w.heap.size w (w1.alloc (.cells cs T)) := hb.trans (Below.mono (by go_grown) hs)
  have k6 := kept_of hgrow (w := w) hbA
  have k61 := kept_of hgrow (w := w1) (by go_grown)
  have hz6 : w1.heap.size + 1 ≤ w2.heap.size := by have := hgrow.size; rw [hsA] at this; exact this
  have hob := own_base hown0
  have hvp : ∀ b ∈ pss.flatten, v.ownBlock ≠ some b := fun b hb e => by
    have := hO.nd
    unfold fpO at this
    exact (List.nodup_append.1 this).2.2 b (by rw [e]; simp) b hb rfl
  have hR := hrows.kept GNode.ok k6 (fun b hb e => hvp b hb e.symm)
  have hS := hp.kept GPat.ok k61 (fun b hb e => by have h1 := (hob b e.symm).2; have h2 := hpf b hb; omega)
  refine ⟨⟨?_, ?_, ?_⟩, ?_, ?_, ?_, ?_⟩
  · exact GrowO.push hR hn hown rfl ⟨_, [], pv, bs, rfl, rfl, hwf, SlO.nil, hS⟩
  · exact fpO_push (s0 := w.heap.size) (s1 := w1.heap.size + 1) hO.nd hlt hpn hpf (fun b hb => by have := hp.lt GPat.ok b hb; omega) (by omega) hat
  · intro b hb
    rw [fpO_slice, List.flatten_append, List.flatten_singleton] at hb
    rcases List.mem_cons.1 hb with h | h
    · subst h
      rcases hat with h2 | h2
      · exact (hob b h2).1
      · omega
    · rcases List.mem_append.1 h with h | h
      · exact hO.lo b (mem_fpO.2 (.inr h))
      · have := hpf b h; omega
  · exact below_grown2 (wr := w) hgrow hbA (Below.refl lo w) hlo hown0
  · intro q h1 h2
    exact k6 q h1 fun e => h2 e.symm
  · intro q hq
    obtain rfl : g = q := by simpa [Value.ownBlock] using hq
    rcases hat with h2 | h2
    · exact .inl h2
    · exact .inr (by omega)
  · intro b hb
    rw [fpO_slice, List.flatten_append, List.flatten_singleton] at hb
    rcases List.mem_cons.1 hb with h | h
    · subst h
      rcases hat with h2 | h2
      · exact .inl (mem_fpO.2 (.inl h2))
      · exact .inr (by omega)
    · rcases List.mem_append.1 h with h | h
      · exact .inl (mem_fpO.2 (.inr h))
      · exact .inr (hpf b h)
end Go.Proofs.YtaimekaagmcmnaaGreat

/- The program's growData: the tree of a value's node. -/
namespace Go.Proofs.YtaimekaagmcmnaaGreat
open Go.RowKit
set_option linter.unusedVariables false
set_option linter.unusedSimpArgs false
attribute [local go_sem] Ext.cell

end Go.Proofs.YtaimekaagmcmnaaGreat

/- The program's dataExpr: plain law; children behind pointers. -/
namespace Go.Proofs.YtaimekaagmcmnaaGreat
open Go.RowKit
set_option linter.unusedVariables false
set_option linter.unusedSimpArgs false
attribute [local go_sem] Ext.cell

/-! Plain. -/
/-! Children that are gathered. -/
def KidsE (w : World) (base : Nat) (T : TypeId) (f : Nat) (vs : List Value) (ts : List ExT) (v : Value) : Prop :=
  vs.length = ts.length ∧ w.ownsRow base T 1 v ts.length vs ∧ ∀ (i : Nat) (p : Value) (t : ExT), vs[i]? = some p → ts[i]? = some t → ExR f (fun b => base ≤ b ∧ v.ownBlock ≠ some b) w p t
theorem KidsE.nil (w : World) (base : Nat) (T : TypeId) (f : Nat) : KidsE w base T f [] [] (.slice none 0 0) := ⟨rfl, own_none, fun i p t (h : ([] : List Value)[i]? = some p) => by simp at h⟩
theorem KidsE.below {w w' : World} {base : Nat} {T : TypeId} {f : Nat} {vs : List Value} {ts : List ExT} {v : Value} (h : KidsE w base T f vs ts v) (hb : Below w.heap.size w w') : KidsE w' base T f vs ts v :=
  ⟨h.1, own_below h.2.1 hb, fun i p t h1 h2 => (h.2.2 i p t h1 h2).below hb⟩
theorem KidsE.grow {w w1 w1' w2 : World} {base : Nat} {T : TypeId} {f : Nat} {vs : List Value} {ts : List ExT} {v p : Value} {t : ExT} {g n cap : Nat} (h : KidsE w base T f vs ts v) (hbase : base ≤ w.heap.size) (hb : Below w.heap.size w w1) (hb1 : Below w1.heap.size w1 w1')
    (hp : ExR f (fun b => w.heap.size ≤ b) w1 p t) (hg : w1'.grownBy w2 v.ownBlock) (hown : w2.ownsRow base T 1 (.slice (some ⟨g, 0, none⟩) n cap) n (vs ++ [p])) (hn : n = ts.length + 1) (hat : v.ownBlock = some g ∨ g = w1'.heap.size) :
    KidsE w2 base T f (vs ++ [p]) (ts ++ [t]) (.slice (some ⟨g, 0, none⟩) n cap) := by
  subst hn
  obtain ⟨h1, h2, h3⟩ := h
  have ob := own_base h2
  have hs1 := hb.size
  have hs2 := hb1.size
  refine ⟨by simp [h1], by simpa using hown, fun i q u hq hu => ?_⟩
  by_cases e : i = ts.length
  · subst e
    rw [List.getElem?_append_right (by omega)] at hq hu
    have hq' : p = q := by simpa [h1] using hq
    have hu' : t = u := by simpa using hu
    subst hq' hu'
    have hp1 : ExR f (fun b => w.heap.size ≤ b ∧ b < w1.heap.size) w1 p t := hp.to (Same.below (Below.refl _ _)) fun b h4 h5 => ⟨h4, h5⟩
    refine (hp1.below hb1).to (fun b h4 h5 => hg.block b h5 fun e => ?_) fun b h4 h5 => ⟨by omega, fun e => ?_⟩
    · have := (ob b e.symm).2
      omega
    · obtain rfl : g = b := by simpa [Value.ownBlock] using e
      rcases hat with h6 | h6
      · have := (ob g h6).2
        omega
      · omega
  · have hi : i < ts.length := by
      have := (List.getElem?_eq_some_iff.1 hu).1
      simp at this; omega
    rw [List.getElem?_append_left (by omega)] at hq hu
    have hp1 : ExR f (fun b => (base ≤ b ∧ v.ownBlock ≠ some b) ∧ b < w.heap.size) w q u := (h3 i q u hq hu).to (Same.below (Below.refl _ _)) fun b h4 h5 => ⟨h4, h5⟩
    refine ((hp1.below hb).below hb1).to (fun b h4 h5 => hg.block b h5 fun e => h4.1.2 e.symm) fun b h4 h5 => ⟨h4.1.1, fun e => ?_⟩
    obtain rfl : g = b := by simpa [Value.ownBlock] using e
    rcases hat with h6 | h6
    · exact h4.1.2 h6
    · omega
theorem KidsE.set {w : World} {base : Nat} {T : TypeId} {f : Nat} {vs : List Value} {ts : List ExT} {v : Value} (h : KidsE w base T f vs ts v) {b o : Nat} (hb : b < base) (u : Value) : KidsE (w.setCell ⟨b, o, none⟩ u) base T f vs ts v :=
  ⟨h.1, own_kept (S := fun k => k = b) h.2.1 ((Kept.refl (fun k => k = b) w).set (p := ⟨b, o, none⟩) rfl u) (fun g hg e => by have := (own_base h.2.1 g hg).1; omega), fun i p t h1 h2 =>
    (h.2.2 i p t h1 h2).to (fun k hk _ => Below.heap_setCell w ⟨b, o, none⟩ u k (by show k ≠ b; omega)) fun k hk _ => hk⟩
theorem KidsE.form {w : World} {base : Nat} {T : TypeId} {f : Nat} {vs : List Value} {ts : List ExT} {v : Value} (h : KidsE w base T f vs ts v) : ∃ a cap, v = .slice a ts.length cap := by
  rcases h.2.1.2 with ⟨rfl, h0⟩ | ⟨g, cap, cur, rfl, _⟩
  · exact ⟨none, 0, by rw [h0]⟩
  · exact ⟨_, cap, rfl⟩
theorem KidsE.tree {w : World} {base lo b f : Nat} {T : TypeId} {vs : List Value} {kd at_ nn : Int} {s : ByteArray} {ts : List ExT} {v : Value} (h : KidsE w base T f vs ts v) (hl : lo ≤ b) (hbase : lo ≤ base) (hwf : (ExT.mk kd at_ nn s ts []).wf) (hr : RowAt w b 0 [.int .i64 kd, .int .i64 at_, .int .i64 nn, .string s, v, .slice none 0 0]) :
    ExR (f + 1) (fun b => lo ≤ b) w (.pointer (some ⟨b, 0, none⟩)) (.mk kd at_ nn s ts []) := by
  by_cases h0 : 0 < ts.length
  · obtain ⟨g, cap, rfl, h1, h2, h3, h4, h5, h6⟩ := own_cells h.2.1 h0
    refine ⟨b, _, cap, _, [], rfl, hl, hwf, PatsSm.nil, hr, SlO.nil, fun q hq => (by cases hq), h3, h4, fun _ => ⟨g, 0, rfl, by omega, fun i k hk => ?_⟩⟩
    have hi := (List.getElem?_eq_some_iff.1 hk).1
    obtain ⟨p, hp⟩ : ∃ p, vs[i]? = some p := ⟨_, List.getElem?_eq_getElem (by rw [h.1]; exact hi)⟩
    exact ⟨p, h5 i p hp, (h.2.2 i p k hp hk).to (Same.below (Below.refl _ _)) fun b h _ => by omega⟩
  · obtain ⟨a, cap, rfl⟩ := h.form
    rcases h.2.1.2 with ⟨hv, _⟩ | ⟨g, cap', cur, hv, _, _, h5, h6, _⟩
    · injection hv with _ e1 e2
      subst e2
      exact ⟨b, a, 0, _, [], rfl, hl, hwf, PatsSm.nil, hr, SlO.nil, fun q hq => (by cases hq), by show ts.length ≤ 0; omega, by omega, fun h => absurd h h0⟩
    · injection hv with _ e1 e2
      subst e2
      exact ⟨b, a, cap, _, [], rfl, hl, hwf, PatsSm.nil, hr, SlO.nil, fun q hq => (by cases hq), h5, by unfold maxLen at h6; omega, fun h => absurd h h0⟩
theorem ExR.node {f b g c : Nat} {S : Nat → Prop} {w : World} {kd at_ nn : Int} {s : ByteArray} {ts : List ExT} {vs : List Value} (hS : S b) (hg : S g) (hwf : (ExT.mk kd at_ nn s ts []).wf)
    (hr : RowAt w b 0 [.int .i64 kd, .int .i64 at_, .int .i64 nn, .string s, .slice (some ⟨g, 0, none⟩) ts.length c, .slice none 0 0]) (hc : ts.length ≤ c) (hc2 : c ≤ 9223372036854775807) (hv : RowAt w g 0 vs) (hl : vs.length = ts.length)
    (hk : ∀ (i : Nat) p t, vs[i]? = some p → ts[i]? = some t → ExR f S w p t) : ExR (f + 1) S w (.pointer (some ⟨b, 0, none⟩)) (.mk kd at_ nn s ts []) :=
  ⟨b, _, c, _, [], rfl, hS, hwf, PatsSm.nil, hr, SlO.nil, fun q hq => (by cases hq), hc, hc2, fun _ => ⟨g, 0, rfl, hg, fun i k hi => by
    obtain ⟨p, hp⟩ : ∃ p, vs[i]? = some p := ⟨_, List.getElem?_eq_getElem (by rw [hl]; exact (List.getElem?_eq_some_iff.1 hi).1)⟩
    exact ⟨p, hv i p hp, hk i p k hp hi⟩⟩⟩
theorem ExR.leaf {b c : Nat} {S : Nat → Prop} {w : World} {kd at_ nn : Int} {s : ByteArray} {a : Option Addr} (hS : S b) (hwf : (ExT.mk kd at_ nn s [] []).wf) (hc : c ≤ 9223372036854775807)
    (hr : RowAt w b 0 [.int .i64 kd, .int .i64 at_, .int .i64 nn, .string s, .slice a 0 c, .slice none 0 0]) : ExR 1 S w (.pointer (some ⟨b, 0, none⟩)) (.mk kd at_ nn s [] []) :=
  ⟨b, a, c, _, [], rfl, hS, hwf, PatsSm.nil, hr, SlO.nil, fun q hq => (by cases hq), Nat.zero_le _, hc, fun h => absurd h (by show ¬ 0 < ([] : List ExT).length; simp)⟩
theorem RowAt.putAt {w : World} {b j : Nat} {r : List Value} (h : RowAt w b 0 r) (hj : j < r.length) (u : Value) : RowAt (w.setCell ⟨b, j, none⟩ u) b 0 (r.set j u) := fun i c hc => by
  have h' := h
  rw [Nat.zero_add]
  by_cases e : j = i
  · subst e
    rw [List.getElem?_set_self hj] at hc
    obtain rfl := Option.some.inj hc
    have := h j _ (List.getElem?_eq_getElem hj)
    rw [Nat.zero_add] at this
    exact cell_setCell_eq w b j _ this
  · rw [List.getElem?_set_ne e] at hc
    have := h i c hc
    rw [Nat.zero_add] at this
    exact (cell_setCell_ne w b j i _ e).trans this
end Go.Proofs.YtaimekaagmcmnaaGreat
