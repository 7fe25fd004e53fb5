/- Parts of the proof, merged: Ptree, FrS0, Need. -/
import Derived.Test.YtaimekaagmcmnaaGreatNe41
namespace Go.Proofs.YtaimekaagmcmnaaGreat
open Go.RowKit
set_option linter.unusedVariables false
set_option linter.unusedSimpArgs false

theorem kids_tree {N : List GNode} {E : Nat → Int} (hE : ∀ k, 0 ≤ E k → ∃ t, Laid N k t ∧ ((k + szE t : Nat) : Int) = E k) : ∀ (ks : List Int) (a : Nat), 0 ≤ kidsEnd E a ks →
    ∃ ts, plE a ts = ks ∧ (∀ (j : Nat) x, (layEs a ts)[j]? = some x → N[a + j]? = some x) ∧ ((a + szEs ts : Nat) : Int) = kidsEnd E a ks
  | [], a, h => ⟨[], rfl, fun j x hx => by simp [layEs] at hx, by simp [szEs, kidsEnd]⟩
  | k :: ks, a, h => by
    unfold kidsEnd at h ⊢
    split at h
    · omega
    · split at h
      · omega
      · rename_i h1 h2
        have e : k = a := Classical.not_not.1 h1
        subst e
        rw [if_neg h1, if_neg h2]
        rw [Int.toNat_natCast] at h h2 ⊢
        obtain ⟨t, ht, hs⟩ := hE a (by omega)
        rw [← hs] at h ⊢
        obtain ⟨ts, h3, h4, h5⟩ := kids_tree hE ks (a + szE t) h
        refine ⟨t :: ts, by rw [plE, h3], fun j x hx => ?_, by rw [← h5, szEs, Nat.add_assoc]⟩
        rw [layEs] at hx
        rcases Nat.lt_or_ge j (szE t) with hj | hj
        · rw [List.getElem?_append_left (by rw [layE_len]; exact hj)] at hx
          exact ht j x hx
        · rw [List.getElem?_append_right (by rw [layE_len]; exact hj), layE_len] at hx
          have := h4 _ x hx
          rw [← this]; congr 1; omega
theorem ends_tree (N : List GNode) : ∀ (f i : Nat), 0 ≤ endsK N.length (kidsAtN N) f i → ∃ t, Laid N i t ∧ ((i + szE t : Nat) : Int) = endsK N.length (kidsAtN N) f i
  | 0, i, h => by simp [endsK] at h
  | f + 1, i, h => by
    unfold endsK at h ⊢
    split at h
    · simp at h
    · rename_i hi
      rw [if_neg hi]
      obtain ⟨x, hx⟩ : ∃ x, N[i]? = some x := ⟨_, List.getElem?_eq_getElem (by omega)⟩
      rw [kidsAtN_get hx] at h ⊢
      rw [show ((i : Int) + 1) = ((i + 1 : Nat) : Int) by omega] at h ⊢
      obtain ⟨ts, h3, h4, h5⟩ := kids_tree (ends_tree N f) x.kids (i + 1) h
      refine ⟨.mk x.kind x.at_ x.n x.s ts x.pats, fun j y hy => ?_, by rw [← h5, szE_mk]; congr 1; omega⟩
      rw [layE_mk, h3] at hy
      cases j with
      | zero => simp at hy; subst hy; exact hx
      | succ j =>
        rw [List.getElem?_cons_succ] at hy
        have := h4 j y hy
        rw [← this]; congr 1; omega
mutual
theorem lay_kids : ∀ (t : ExT) (a : Nat) (y : GNode), y ∈ layE a t → y.kids.length + 1 ≤ szE t
  | .mk kd at_ n s ks ps, a, y, h => by
    rw [layE_mk] at h
    rw [szE_mk]
    rcases List.mem_cons.1 h with rfl | h
    · dsimp only
      rw [plE_len]
      have := szEs_len ks
      omega
    · have := lays_kids ks (a + 1) y h
      omega
theorem lays_kids : ∀ (ks : List ExT) (a : Nat) (y : GNode), y ∈ layEs a ks → y.kids.length + 1 ≤ szEs ks
  | [], a, y, h => by rw [layEs] at h; cases h
  | k :: ks, a, y, h => by
    rw [layEs] at h
    rw [szEs]
    rcases List.mem_append.1 h with h | h
    · have := lay_kids k a y h; omega
    · have := lays_kids ks _ y h; omega
theorem szEs_len : ∀ ks : List ExT, ks.length ≤ szEs ks
  | [] => Nat.zero_le _
  | k :: ks => by rw [szEs, List.length_cons]; have := szEs_len ks; have := szE_pos k; omega
end
def NodeGood (y : GNode) : Prop := (y.kind = 13 → y.kids.length ≤ y.pats.length + 1) ∧ ∀ q ∈ y.pats, q.nodes.length ≤ 600
mutual
theorem okE_laid {N : List GNode} (hg : ∀ y ∈ N, NodeGood y) : ∀ (t : ExT) (a : Nat), Laid N a t → okE t = true
  | .mk kd at_ n s ks ps, a, h => by
    have hh := hg _ (List.mem_of_getElem? h.head)
    obtain ⟨g1, g2⟩ := hh
    dsimp only at g1 g2
    rw [plE_len] at g1
    rw [okE, okEs_laid hg ks (a + 1) fun j y hy => by
      have := h (j + 1) y (by rw [layE_mk, List.getElem?_cons_succ]; exact hy)
      rw [← this]; congr 1; omega]
    simp only [Bool.and_true, Bool.and_eq_true, decide_eq_true_eq, List.all_eq_true]
    exact ⟨g1, g2⟩
theorem okEs_laid {N : List GNode} (hg : ∀ y ∈ N, NodeGood y) : ∀ (ks : List ExT) (a : Nat), (∀ (j : Nat) x, (layEs a ks)[j]? = some x → N[a + j]? = some x) → okEs ks = true
  | [], a, h => rfl
  | k :: ks, a, h => by
    rw [okEs, okE_laid hg k a (fun j x hx => h j x (by rw [layEs, List.getElem?_append_left (List.getElem?_eq_some_iff.1 hx).1]; exact hx)),
      okEs_laid hg ks (a + szE k) (fun j x hx => by
        have := h (szE k + j) x (by rw [layEs, List.getElem?_append_right (by rw [layE_len]; omega), layE_len]; rw [← hx]; congr 1; omega)
        rw [← this]; congr 1; omega)]
    rfl
end
theorem pnOk_few' {l : List GDNode} {x : GDNode} (h : pnOk l x = true) : x.kids.length ≤ 2 := by
  obtain ⟨kd, nn, s, ks⟩ := x
  show ks.length ≤ 2
  rcases pnOk_kind l kd nn s ks with ⟨_, e⟩ | ⟨_, e⟩ | ⟨_, e⟩ | ⟨_, e⟩ | ⟨_, e⟩ | ⟨_, _, _, _, _, _, e⟩
  all_goals rw [h] at e; replace e := e.symm; (try simp only [Bool.and_eq_true, beq_iff_eq] at e)
  · omega
  · omega
  · omega
  · have := conShape_le e.2; omega
  · omega
  · cases e
theorem patOk_small {q : GPat} (h : patOk (patD q) = true) : q.nodes.length ≤ 600 ∧ ∀ x ∈ q.nodes, x.kids.length ≤ 2 := by
  unfold patOk at h
  simp only [Bool.and_eq_true, decide_eq_true_eq] at h
  obtain ⟨h1, -, h2, -⟩ := h
  have hl : (patD q).nodes.length = q.nodes.length := by unfold patD; rw [List.length_map]
  rw [hl] at h1
  refine ⟨by omega, fun x hx => ?_⟩
  have hm : toD x ∈ (patD q).nodes := List.mem_map_of_mem hx
  have h3 : ((patD q).nodes.any fun x => !pnOk (patD q).nodes x) = false := by simpa using h2
  rw [List.any_eq_false] at h3
  have := h3 _ hm
  exact pnOk_few' (l := (patD q).nodes) (x := toD x) (by simpa using this)
theorem nodOk_pats {N : List GNode} {x : GNode} (h : nodOk N x = true) : (x.kind ≠ 13 → x.pats.length = 0) ∧ (x.kind = 13 → x.kids.length = x.pats.length + 1) := by
  unfold nodOk at h
  rw [Bool.and_eq_true] at h
  obtain ⟨h1, h2⟩ := h
  refine ⟨fun hk => ?_, fun hk => ?_⟩
  · unfold nodBad at h1
    simp only [Bool.not_eq_true', Bool.or_eq_false_iff, Bool.and_eq_false_iff, decide_eq_false_iff_not] at h1
    have := h1.2.1
    rcases this with h | h
    · rw [bne_eq_false_iff_eq] at h; exact absurd h hk
    · omega
  · unfold nodBody at h2
    rw [if_neg (by omega), if_neg (by omega), if_neg (by omega), if_neg (by omega), if_neg (by omega), if_neg (by omega), if_neg (by omega), if_pos hk] at h2
    simp only [Bool.and_eq_true, beq_iff_eq, decide_eq_true_eq] at h2
    omega
theorem prog_tree {p : GProgram} (h : progOk p = true) (hs : ProgSm p) : ∃ x, TreeOf p x := by
  have h0 := h
  unfold progOk at h
  rw [Bool.and_eq_true] at h
  obtain ⟨h1, h2⟩ := h
  unfold shapeP at h1
  simp only [Bool.and_eq_true, decide_eq_true_eq, List.all_eq_true] at h1 h2
  obtain ⟨⟨⟨hn1, hn2⟩, -⟩, hin, hnod, -⟩ := h1
  unfold inOrd at hin
  have he := of_decide_eq_true hin
  obtain ⟨x, hl, hsz⟩ := ends_tree p.nodes (p.nodes.length + 1) 0 (by rw [he]; omega)
  rw [he] at hsz
  have hsz' : szE x = p.nodes.length := by omega
  have hmem : ∀ y ∈ p.nodes, y ∈ layE 0 x := fun y hy => by
    obtain ⟨i, hi, rfl⟩ := List.getElem_of_mem hy
    obtain ⟨z, hz⟩ : ∃ z, (layE 0 x)[i]? = some z := ⟨_, List.getElem?_eq_getElem (by rw [layE_len]; omega)⟩
    have := hl i z hz
    rw [Nat.zero_add, List.getElem?_eq_getElem hi] at this
    obtain rfl := Option.some.inj this
    exact List.mem_of_getElem? hz
  have hps : ∀ y ∈ p.nodes, ∀ q ∈ y.pats, q.nodes.length ≤ 600 ∧ ∀ x ∈ q.nodes, x.kids.length ≤ 2 := fun y hy q hq => by
    have := h2 y hy
    unfold patsOk at this
    rw [List.all_eq_true] at this
    exact patOk_small (this q hq)
  have hkl : ∀ y ∈ p.nodes, y.kids.length ≤ 600 := fun y hy => by have := lay_kids x 0 y (hmem y hy); omega
  have hpl : ∀ y ∈ p.nodes, y.pats.length ≤ 600 := fun y hy => by
    have h3 := nodOk_pats (hnod y hy)
    have h4 := hkl y hy
    by_cases hk : y.kind = 13
    · have := h3.2 hk; omega
    · have := h3.1 hk; omega
  exact ⟨x, h0, hs, hl, by omega, fun y hy => ⟨by have := hpl y hy; omega, fun q hq => ⟨by have := (hps y hy q hq).1; omega, fun z hz => by have := (hps y hy q hq).2 z hz; omega⟩⟩,
    okE_laid (fun y hy => ⟨fun hk => by have := (nodOk_pats (hnod y hy)).2 hk; omega, fun q hq => (hps y hy q hq).1⟩) x 0 hl⟩
theorem eqS_comm' (a b : ByteArray) : eqS a b = eqS b a := by unfold eqS; exact BEq.comm
theorem anyS_pnamesL (name : ByteArray) : ∀ l : List GPNode, anyS (pnamesL l) name = l.any fun n => n.kind == 2 && eqS name n.s
  | [] => rfl
  | x :: l => by
    have ih := anyS_pnamesL name l
    unfold anyS pnamesL at *
    rw [List.any_cons, ← ih, List.filter_cons]
    by_cases h : x.kind = 2
    · rw [if_pos (by simp [h]), List.map_cons, List.any_cons]
      rw [show (x.kind == 2) = true by simp [h], Bool.true_and]
    · rw [if_neg (by simp [h]), show (x.kind == 2) = false by simp [h], Bool.false_and, Bool.false_or]
theorem countKs_pos {name : ByteArray} {kd : Int} {s : ByteArray} {ps : List GPat} : ∀ (ks : List ExT) (i j : Nat) (k : ExT), ks[j]? = some k → bindsP kd s ps (i + j) name = false → 0 < countE name k → 0 < countKs name kd s ps i ks
  | [], i, j, k, h, _, _ => by simp at h
  | c :: ks, i, 0, k, h, h1, h2 => by
    obtain rfl : c = k := by simpa using h
    rw [countKs, show bindsP kd s ps i name = false from h1, if_neg (by simp)]
    omega
  | c :: ks, i, j + 1, k, h, h1, h2 => by
    rw [countKs]
    have := countKs_pos ks (i + 1) j k (by simpa using h) (by rw [← h1]; congr 1; omega) h2
    omega
theorem countKs_zero {name : ByteArray} {kd : Int} {s : ByteArray} {ps : List GPat} : ∀ (ks : List ExT) (i : Nat), (∀ j k, ks[j]? = some k → bindsP kd s ps (i + j) name = true ∨ countE name k = 0) → countKs name kd s ps i ks = 0
  | [], i, _ => rfl
  | c :: ks, i, h => by
    rw [countKs, countKs_zero ks (i + 1) fun j k hk => by
      have := h (j + 1) k (by simpa using hk)
      rwa [show i + (j + 1) = i + 1 + j by omega] at this]
    rcases h 0 c rfl with h1 | h1
    · rw [show bindsP kd s ps i name = true from h1]; rfl
    · rw [h1]; simp
def freeP (name : ByteArray) (x : ExT) : Bool := decide (0 < countE name x)
end Go.Proofs.YtaimekaagmcmnaaGreat
namespace Go.Proofs.YtaimekaagmcmnaaGreat
open Go.RowKit
set_option linter.unusedVariables false
set_option linter.unusedSimpArgs false
attribute [local go_sem] Ext.cell

def freeL (x : ExT) : List ByteArray := libNames.filter fun n => freeP n x
theorem freeL_len (x : ExT) : (freeL x).length ≤ 13 := List.length_filter_le _ _

set_option maxRecDepth 100000 in
set_option maxHeartbeats 4000000 in
theorem needsClo_c (p : GProgram) (x : ExT) (hx : TreeOf p x) (n : ByteArray) (W : World) (b : Nat) (tv nv : Value) (hrow : RowAt W b 0 [tv, nv]) (lo : Nat) (hR : GProgram.R lo W [tv, nv] p) :
    Calls Tryz.prog 25 (#[.string n] ++ #[.pointer (some ⟨b, 0, none⟩)]) W fun e w' => e = .returned (.bool (!freeP n x)) ∧ Below W.heap.size W w' := by
  have cF := fun W' (hW : Below W.heap.size W W') => FreeIn_c p x hx n [tv, nv] lo W' (GProgram.good.below hR hW)
  replace cF : ∀ W', Below W.heap.size W W' → Calls Tryz.prog 26 #[.agg #[tv, nv], .int .i64 0, .string n] W' fun e w' => e = .returned (.bool (freeP n x)) ∧ Below W'.heap.size W' w' := cF
  obtain ⟨r_0, r_1⟩ := hrow.box2
  have hbl := World.block_lt_of_cell? _ _ r_0; dsimp only at hbl
  clear hR
  generalize freeP n x = q at *
  replace cF := Lib.hid cF
  show Calls Tryz.prog 25 #[.string n, .pointer (some ⟨b, 0, none⟩)] W _
  go_enter Tryz.func25, Tryz.ntmps25
  go_wp2_with (go_at_call 26; (with_reducible refine (cF.out _ (by go_grown)).mono ?_); rintro e w1 ⟨rfl, hb⟩)
  go_returns
  exact ⟨rfl, hb⟩

set_option maxRecDepth 100000 in
set_option maxHeartbeats 8000000 in
theorem Needs_no (p : GProgram) (hs : ProgSm p) (hk : progOk p = false) (r : List Value) (lo : Nat) (w : World) (hr : GProgram.R lo w r p) :
    Calls Tryz.prog 7 #[.agg r.toArray] w (StrPost [] w) := by
  have cP := fun W (hW : Below w.heap.size w W) => ProgramOk_c p hs r lo W (GProgram.good.below hr hW)
  rw [hk] at cP
  obtain ⟨tv, nv, rfl, -, hT, hN⟩ := hr
  obtain ⟨na, nc, rfl⟩ := hN.form
  obtain ⟨ta, tc, rfl⟩ := hT.form
  generalize p.types.length = tn at *
  generalize p.nodes.length = n at *
  clear hT hN
  replace cP : ∀ W, Below w.heap.size w W → Calls Tryz.prog 21 #[.agg #[.slice ta tn tc, .slice na n nc]] W fun e w' => e = .returned (.bool false) ∧ Below W.heap.size W w' := cP
  have hpost : ∀ W, Below w.heap.size w W → StrPost [] w (.returned (.slice none 0 0)) W := fun W h => ⟨_, rfl, OwnF.empty, h⟩
  generalize StrPost [] w = Q at *
  replace cP := Lib.hid cP; replace hpost := Lib.hid hpost
  show Calls Tryz.prog 7 #[.agg #[.slice ta tn tc, .slice na n nc]] w _
  go_enter Tryz.func7, Tryz.ntmps7
  go_upto_region 1 with fail
  have D : RowAt (w.alloc (.cells #[.slice ta tn tc, .slice na n nc] 32)) (w.heap.size) 0 [.slice ta tn tc, .slice na n nc] := RowAt.box w #[.slice ta tn tc, .slice na n nc] 32
  have hw : Below w.heap.size w (w.alloc (.cells #[.slice ta tn tc, .slice na n nc] 32)) := by go_grown
  generalize (w.alloc (.cells #[.slice ta tn tc, .slice na n nc] 32)) = w0 at *
  obtain ⟨d_0, d_1⟩ := D.box2; have hsD := World.block_lt_of_cell? _ _ d_0; dsimp only at hsD
  go_wp2_with (go_at_call 21; ((with_reducible refine (cP.out _ hw).mono ?_); rintro e w1 ⟨rfl, hb⟩; have hw := hw.trans (hb.mono hw.size); have D := D.below hb; obtain ⟨d_0, d_1⟩ := D.box2; have hsD := World.block_lt_of_cell? _ _ d_0; dsimp only at hsD; clear hb))
  exact hpost.out _ hw

set_option maxRecDepth 100000 in
set_option maxHeartbeats 16000000 in
theorem Needs_yes (p : GProgram) (x : ExT) (hx : TreeOf p x) (r : List Value) (lo : Nat) (w : World) (hr : GProgram.R lo w r p) :
    Calls Tryz.prog 7 #[.agg r.toArray] w (StrPost (needL (freeL x)) w) := by
  have cP := fun W (hW : Below w.heap.size w W) => ProgramOk_c p hx.sm r lo W (GProgram.good.below hr hW)
  rw [hx.ok] at cP
  have Hr := hr
  obtain ⟨tv, nv, rfl, -, hT, hN⟩ := hr
  obtain ⟨na, nc, rfl⟩ := hN.form
  obtain ⟨ta, tc, rfl⟩ := hT.form
  generalize p.types.length = tn at *
  generalize p.nodes.length = n at *
  clear hT hN
  replace cP : ∀ W, Below w.heap.size w W → Calls Tryz.prog 21 #[.agg #[.slice ta tn tc, .slice na n nc]] W fun e w' => e = .returned (.bool true) ∧ Below W.heap.size W w' := cP
  have cC := fun (b : Nat) (m : ByteArray) W (hrow : RowAt W b 0 [.slice ta tn tc, .slice na n nc]) (hW : Agree lo w W) => needsClo_c p x hx m W b _ _ hrow lo (GProgram.good.agree Hr hW)
  have cN := fun v l W hv => implNeeds_y (freeL x) (by have := freeL_len x; omega) v l W hv
  have hpost : ∀ W W' v, OwnF 9 1 strRow StrOk W.heap.size W' v (needL (freeL x)) → Below w.heap.size w W → Below W.heap.size W W' → StrPost (needL (freeL x)) w (.returned v) W' := fun W W' v h1 h2 h3 => ⟨_, rfl, h1.mono h2.size, h2.trans (h3.mono h2.size)⟩
  have hfl := freeL_len x
  generalize StrPost (needL (freeL x)) w = Q at *
  have hD : ∀ (b : Nat) (w5 : World) gl cap, RowAt w5 b 0 [.slice ta tn tc, .slice na n nc] → b < w.heap.size + 1 → w.heap.size ≤ b → Below w.heap.size w w5 → w.heap.size + 1 ≤ w5.heap.size → OwnF 9 1 strRow StrOk (w.heap.size + 1) w5 (.slice (some ⟨gl, 0, none⟩) 13 cap) libNames →
      Calls Tryz.prog 23 #[.slice (some ⟨gl, 0, none⟩) 13 cap, .func (.func 25) #[] #[.pointer (some ⟨b, 0, none⟩)]] w5 (fun e w' => ∃ v', e = .returned v' ∧ OwnF 9 1 strRow StrOk (w.heap.size + 1) w' v' (freeL x) ∧ Below (w.heap.size + 1) w5 w') := fun b w5 gl cap hrow hb hb' hw5 hz hO => by
    have hgl := hO.base gl rfl
    have hf : (libNames.filter fun y => !(!freeP y x)) = freeL x := by unfold freeL; congr 1; funext y; rw [Bool.not_not]
    refine (deleteFuncS_c libNames (fun n => !freeP n x) 25 #[.pointer (some ⟨b, 0, none⟩)] (w.heap.size + 1) gl 13 cap w5 hgl.1 hz (by decide) rfl hO (fun y W hy hK hW => ?_) (fun _ _ => by kernel_rfl)).mono ?_
    · exact cC b y W (hrow.kept hK (by omega)) (fun q _ hq => (hK q (by omega) (by omega)).trans (hw5.block q hq))
    · rintro e w6 ⟨v', rfl, h1, h2, h3, h4⟩
      rw [hf] at h1
      exact ⟨v', rfl, h1, h4⟩
  have cL := fun W => impl_LibNames_c W
  replace cP := Lib.hid cP; replace cN := Lib.hid cN; replace hpost := Lib.hid hpost; replace hD := Lib.hid hD; replace cL := Lib.hid cL
  clear cC Hr hx
  show Calls Tryz.prog 7 #[.agg #[.slice ta tn tc, .slice na n nc]] w _
  go_enter Tryz.func7, Tryz.ntmps7
  go_upto_region 1 with fail
  have D : RowAt (w.alloc (.cells #[.slice ta tn tc, .slice na n nc] 32)) (w.heap.size) 0 [.slice ta tn tc, .slice na n nc] := RowAt.box w #[.slice ta tn tc, .slice na n nc] 32
  have hw : Below w.heap.size w (w.alloc (.cells #[.slice ta tn tc, .slice na n nc] 32)) := by go_grown
  generalize (w.alloc (.cells #[.slice ta tn tc, .slice na n nc] 32)) = w0 at *
  obtain ⟨d_0, d_1⟩ := D.box2; have hsD := World.block_lt_of_cell? _ _ d_0; dsimp only at hsD
  have hz0 : w.heap.size + 1 ≤ w0.heap.size := hsD
  go_upto_region 3 with (go_at_call 21; (with_reducible refine (cP.out _ hw).mono ?_); rintro e w1 ⟨rfl, hb1⟩; have hw1 := hw.trans (hb1.mono hw.size); have D1 := D.below hb1; have hz1 : w.heap.size + 1 ≤ w1.heap.size := Nat.le_trans hz0 hb1.size)
  clear d_0 d_1 hsD hw D hz0
  obtain ⟨d1_0, d1_1⟩ := D1.box2; have hsD1 := World.block_lt_of_cell? _ _ d1_0; dsimp only at hsD1
  go_wp2_with (first
    | (go_at_call 24; (with_reducible refine (cL.out _).mono ?_); rintro e w5 ⟨lv, rfl, OL, hb5⟩; obtain ⟨gl, lcap, rfl, l1, l2, l3, l4, LR, l6⟩ := own_cells OL (by decide); have OL2 : OwnF 9 1 strRow StrOk (w.heap.size + 1) w5 (.slice (some ⟨gl, 0, none⟩) 13 lcap) libNames := ⟨own_lo OL hz1, libNames_ok⟩; have hw5 := hw1.trans (hb5.mono hw1.size); have hDD := hD.out _ w5 gl lcap (D1.below hb5) (by omega) (Nat.le_refl _) hw5 (Nat.le_trans hz1 hb5.size) OL2; replace hDD := Lib.hid hDD; clear OL OL2 LR l6 hb5)
    | (go_at_call 23; (with_reducible refine (hDD.out).mono ?_); rintro e w6 ⟨dv, rfl, OD, hb6⟩; have hw6 := hw5.trans (hb6.mono (Nat.le_succ _)); have cN2 := cN.out _ _ _ (OD.sl flatStr); replace cN2 := Lib.hid cN2)
    | (go_at_call 22; (with_reducible refine (cN2.out).mono ?_); rintro e w7 ⟨rv, rfl, OR, hb7⟩))
  exact hpost.out _ _ _ OR hw6 hb7
end Go.Proofs.YtaimekaagmcmnaaGreat
