/- Parts of the proof, merged: LtLaw2, Deep, FdLaw. -/
import Derived.Test.YtpblhonnknmjjaaFd014
/- Of two right values exactly one comes first where their texts differ: plain law. -/
namespace Go.Proofs.Ytpblhonnknmjjaa
open Go.RowKit
set_option linter.unusedVariables false
set_option linter.unusedSimpArgs false

theorem nodeCmp_none {x y : GDNode} : nodeCmp x y = none ↔ x.kind = y.kind ∧ x.n = y.n ∧ x.s = y.s ∧ x.kids.length = y.kids.length := by
  unfold nodeCmp
  constructor
  · intro h
    split at h
    · cases h
    · rename_i h1
      split at h
      · cases h
      · rename_i h2
        split at h
        · cases h
        · rename_i h3
          split at h
          · cases h
          · rename_i h4
            simp at h1 h2 h3 h4
            exact ⟨h1, h2, (toList_eq _ _).1 h3, by omega⟩
  · rintro ⟨h1, h2, h3, h4⟩
    rw [h1, h2, h3, h4]
    simp
theorem alike_at : ∀ {a b : List GDNode}, Alike a b → ∀ (i : Nat) x y, a[i]? = some x → b[i]? = some y → nodeCmp x y = none
  | [], b, _, i, x, y, h, _ => by simp at h
  | x0 :: a, [], _, i, x, y, _, h => by simp at h
  | x0 :: a, y0 :: b, h, 0, x, y, hx, hy => by
    obtain rfl : x0 = x := by simpa using hx
    obtain rfl : y0 = y := by simpa using hy
    exact h.1
  | x0 :: a, y0 :: b, h, i + 1, x, y, hx, hy => alike_at h.2 i x y (by simpa using hx) (by simpa using hy)
/-- Alike lists end alike and are the same tree. -/
theorem kidsEnd_alike {E E' : Nat → Int} {P : Int → Int → Prop} : ∀ (ks ks' : List Int) (nx : Int), ks.length = ks'.length → 0 ≤ nx → (∀ k, 0 ≤ E k → 0 ≤ E' k → E k = E' k ∧ P k k) → 0 ≤ kidsEnd E nx ks → 0 ≤ kidsEnd E' nx ks' →
    ks = ks' ∧ kidsEnd E nx ks = kidsEnd E' nx ks' ∧ ∀ k ∈ ks, P k k ∧ 0 ≤ k
  | [], [], nx, _, _, _, _, _ => ⟨rfl, rfl, fun k h => by simp at h⟩
  | [], _ :: _, _, h, _, _, _, _ => by simp at h
  | _ :: _, [], _, h, _, _, _, _ => by simp at h
  | k :: ks, k' :: ks', nx, hl, h0, hE, h1, h2 => by
    unfold kidsEnd at h1 h2 ⊢
    split at h1
    · omega
    · split at h1
      · omega
      · split at h2
        · omega
        · split at h2
          · omega
          · rename_i h3 h4 h5 h6
            have e1 : k = nx := by omega
            have e2 : k' = nx := by omega
            subst e1
            obtain rfl : k' = k := e2
            obtain ⟨e3, hP⟩ := hE k'.toNat (by omega) (by omega)
            rw [if_neg h3, if_neg h4, if_neg h5, if_neg h6]
            rw [← e3] at h2 ⊢
            obtain ⟨e4, e5, e6⟩ := kidsEnd_alike ks ks' (E k'.toNat) (by simpa using hl) (by omega) hE h1 h2
            refine ⟨by rw [e4], e5, fun k hk => ?_⟩
            rcases List.mem_cons.1 hk with rfl | hk
            · rw [Int.toNat_of_nonneg h0] at hP; exact ⟨hP, h0⟩
            · exact e6 k hk
theorem alike_tree {a b : List GDNode} (hA : ∀ (i : Nat) x y, a[i]? = some x → b[i]? = some y → nodeCmp x y = none) : ∀ (F G i : Nat), 0 ≤ ends a F i → 0 ≤ ends b G i → ends a F i = ends b G i ∧ ∀ f, treeOf a f i = treeOf b f i
  | 0, G, i, h, _ => by simp [ends] at h
  | F + 1, 0, i, _, h => by simp [ends] at h
  | F + 1, G + 1, i, h1, h2 => by
    unfold ends at h1 h2 ⊢
    cases hx : a[i]? with
    | none => rw [hx] at h1; simp at h1
    | some x =>
      cases hy : b[i]? with
      | none => rw [hy] at h2; simp at h2
      | some y =>
        rw [hx] at h1; rw [hy] at h2
        obtain ⟨e1, e2, e3, e4⟩ := nodeCmp_none.1 (hA i x y hx hy)
        obtain ⟨e5, e6, e7⟩ := kidsEnd_alike (P := fun k _ => ∀ f, treeOf a f k.toNat = treeOf b f k.toNat) x.kids y.kids (i + 1) e4 (by omega) (fun k h3 h4 => by
          obtain ⟨e8, e9⟩ := alike_tree hA F G k h3 h4
          exact ⟨e8, by rw [Int.toNat_natCast]; exact e9⟩) h1 h2
        refine ⟨e6, fun f => ?_⟩
        cases f with
        | zero => rfl
        | succ f =>
          rw [treeOf_some hx, treeOf_some hy, e1, e2, e3, ← e5]
          congr 1
          exact List.map_congr_left fun k hk => (e7 k hk).1 f

def sigD (x : GDNode) : Int × Int × ByteArray × Nat := (x.kind, x.n, x.s, x.kids.length)
def flatT : Nat → PxT → List (Int × Int × ByteArray × Nat)
  | 0, _ => []
  | f + 1, t => (t.kind, t.n, t.s, t.kids.length) :: (t.kids.flatMap (flatT f))
theorem kidsEnd_flat {E : Nat → Int} {L : Int} {l : List GDNode} {g : Int → List (Int × Int × ByteArray × Nat)} (hE : ∀ k, 0 ≤ E k → (k : Int) + 1 ≤ E k ∧ E k ≤ L) (hg : ∀ k : Nat, 0 ≤ E k → g k = ((l.take (E k).toNat).drop k).map sigD) :
    ∀ (ks : List Int) (nx : Int), 0 ≤ nx → 0 ≤ kidsEnd E nx ks → nx ≤ kidsEnd E nx ks ∧ ks.flatMap g = ((l.take (kidsEnd E nx ks).toNat).drop nx.toNat).map sigD
  | [], nx, h0, h => by
    unfold kidsEnd
    refine ⟨Int.le_refl _, ?_⟩
    rw [List.drop_of_length_le (by rw [List.length_take]; omega)]
    rfl
  | k :: ks, nx, h0, h => by
    unfold kidsEnd at h ⊢
    split at h
    · omega
    · split at h
      · omega
      · rename_i h1 h2
        have e : k = nx := by omega
        subst e
        have h3 := hE k.toNat (by omega)
        obtain ⟨h4, h5⟩ := kidsEnd_flat hE hg ks (E k.toNat) (by omega) h
        rw [if_neg h1, if_neg h2]
        refine ⟨by omega, ?_⟩
        have h6 := hg k.toNat (by omega)
        rw [Int.toNat_of_nonneg h0] at h6
        rw [List.flatMap_cons, h5, h6, ← List.map_append]
        congr 1
        have e1 : (l.take (E k.toNat).toNat) = (l.take (kidsEnd E (E k.toNat) ks).toNat).take (E k.toNat).toNat := by rw [List.take_take, Nat.min_eq_left (by omega)]
        rw [e1]
        generalize l.take (kidsEnd E (E k.toNat) ks).toNat = q
        have e2 : q.drop k.toNat = (q.take (E k.toNat).toNat ++ q.drop (E k.toNat).toNat).drop k.toNat := by rw [List.take_append_drop]
        by_cases hq : (E k.toNat).toNat ≤ q.length
        · rw [e2, List.drop_append_of_le_length (by rw [List.length_take]; omega)]
        · rw [List.take_of_length_le (by omega), List.drop_of_length_le (l := q) (i := (E k.toNat).toNat) (by omega), List.append_nil]
theorem flat_tree (l : List GDNode) (hU : Up l) : ∀ (F f g i : Nat), 0 ≤ ends l F i → l.length ≤ i + f → l.length ≤ i + g → flatT g (treeOf l f i) = ((l.take (ends l F i).toNat).drop i).map sigD
  | 0, f, g, i, h, _, _ => by simp [ends] at h
  | F + 1, f, g, i, h, hf, hg => by
    have hr := ends_range l (F + 1) i h
    unfold ends at h hr ⊢
    cases hx : l[i]? with
    | none => rw [hx] at h; simp at h
    | some x =>
      rw [hx] at h hr
      dsimp only at h hr ⊢
      have hi := (List.getElem?_eq_some_iff.1 hx).1
      have hup := hU i x hx
      match f, hf with
      | 0, hf => omega
      | f + 1, hf =>
        match g, hg with
        | 0, hg => omega
        | g + 1, hg =>
          rw [treeOf_some hx]
          show (x.kind, x.n, x.s, (x.kids.map fun k => treeOf l f k.toNat).length) :: ((x.kids.map fun k => treeOf l f k.toNat).flatMap (flatT g)) = _
          have e0 : (x.kids.map fun k => treeOf l f k.toNat).flatMap (flatT g) = x.kids.flatMap fun k => flatT g (treeOf l f k.toNat) := by rw [List.flatMap_map]
          obtain ⟨_, h5⟩ := kidsEnd_flat (E := ends l F) (L := l.length) (l := l) (g := fun k => if (i : Int) < k ∧ k < l.length then flatT g (treeOf l f k.toNat) else ((l.take (ends l F k.toNat).toNat).drop k.toNat).map sigD) (ends_range l F) (fun k hk => by
            (try dsimp only)
            split
            · rename_i hc
              rw [Int.toNat_natCast]
              exact flat_tree l hU F f g k hk (by omega) (by omega)
            · rw [Int.toNat_natCast]) x.kids (i + 1) (by omega) h
          have e1 : (x.kids.flatMap fun k => flatT g (treeOf l f k.toNat)) = x.kids.flatMap fun k => if (i : Int) < k ∧ k < l.length then flatT g (treeOf l f k.toNat) else ((l.take (ends l F k.toNat).toNat).drop k.toNat).map sigD := by
            rw [List.flatMap_def, List.flatMap_def]
            congr 1
            exact List.map_congr_left fun k hk => by rw [if_pos (hup k hk)]
          rw [e0, e1, h5, List.length_map, show ((i : Int) + 1).toNat = i + 1 by omega]
          rw [List.drop_eq_getElem_cons (i := i) (by rw [List.length_take]; omega)]
          have e2 : (l.take (kidsEnd (ends l F) (↑i + 1) x.kids).toNat)[i]'(by rw [List.length_take]; omega) = x := by
            rw [List.getElem_take]
            exact (List.getElem?_eq_some_iff.1 hx).2
          rw [e2]
          rfl
theorem data_flat {d : GData} (h : dataOk d = true) (g : Nat) (hg : d.nodes.length ≤ g) : flatT g (treeOf d.nodes d.nodes.length 0) = d.nodes.map sigD := by
  obtain ⟨hU, h0, hL⟩ := dataOk_up h
  have he : ends d.nodes (d.nodes.length + 1) 0 = d.nodes.length := by
    unfold dataOk at h
    simp only [Bool.and_eq_true, decide_eq_true_eq] at h
    rw [show kidsAt d.nodes = (fun i => (d.nodes[i]?.map (·.kids)).getD []) from rfl, ← ends_eq] at h
    exact h.2.1
  have := flat_tree d.nodes hU (d.nodes.length + 1) d.nodes.length g 0 (by rw [he]; omega) (by omega) (by omega)
  rw [this, he, Int.toNat_natCast, List.take_length, List.drop_zero]
theorem alike_of_sig : ∀ {a b : List GDNode}, a.map sigD = b.map sigD → Alike a b
  | [], [], _ => trivial
  | [], _ :: _, h => by simp at h
  | _ :: _, [], h => by simp at h
  | x :: a, y :: b, h => by
    simp only [List.map_cons, List.cons.injEq] at h
    refine ⟨nodeCmp_none.2 ?_, alike_of_sig h.2⟩
    have := h.1
    unfold sigD at this
    simp only [Prod.mk.injEq] at this
    exact this
theorem text_alike {a b : GData} (ha : dataOk a = true) (hb : dataOk b = true) : dataText a = dataText b ↔ Alike a.nodes b.nodes := by
  have ra := data_right ha
  have rb := data_right hb
  obtain ⟨hUa, _, _⟩ := dataOk_up ha
  obtain ⟨hUb, _, _⟩ := dataOk_up hb
  have hea : ends a.nodes (a.nodes.length + 1) 0 = a.nodes.length := by
    have h := ha
    unfold dataOk at h
    simp only [Bool.and_eq_true, decide_eq_true_eq] at h
    rw [show kidsAt a.nodes = (fun i => (a.nodes[i]?.map (·.kids)).getD []) from rfl, ← ends_eq] at h
    exact h.2.1
  have heb : ends b.nodes (b.nodes.length + 1) 0 = b.nodes.length := by
    have h := hb
    unfold dataOk at h
    simp only [Bool.and_eq_true, decide_eq_true_eq] at h
    rw [show kidsAt b.nodes = (fun i => (b.nodes[i]?.map (·.kids)).getD []) from rfl, ← ends_eq] at h
    exact h.2.1
  constructor
  · intro h
    rw [h] at ra
    have ht := ra.inj rb
    have fa := data_flat ha (a.nodes.length + b.nodes.length) (by omega)
    have fb := data_flat hb (a.nodes.length + b.nodes.length) (by omega)
    rw [ht, fb] at fa
    exact alike_of_sig fa.symm
  · intro h
    obtain ⟨e1, e2⟩ := alike_tree (alike_at h) (a.nodes.length + 1) (b.nodes.length + 1) 0 (by omega) (by omega)
    have el : a.nodes.length = b.nodes.length := by omega
    unfold dataText
    rw [if_pos ha, if_pos hb, el, e2]
/-- The law: just one of two right values comes first if and only if their texts differ. -/
theorem less_law {a b : GData} (ha : dataOk a = true) (hb : dataOk b = true) :
    ((dataText a = dataText b) ∧ dataLess a b = false ∧ dataLess b a = false) ∨ ((dataText a ≠ dataText b) ∧ dataLess b a = !dataLess a b) := by
  have h1 := text_alike ha hb
  unfold dataLess
  rw [ha, hb]
  simp only [Bool.true_and]
  rcases lessL_ways a.nodes b.nodes with ⟨h2, h3, h4⟩ | ⟨h2, h3⟩
  · exact .inl ⟨h1.2 h2, h3, h4⟩
  · exact .inr ⟨fun h => h2 (h1.1 h), h3⟩
end Go.Proofs.Ytpblhonnknmjjaa

/- How deep a value is: the program's deepOf, the reference's l21Deep; DataDeep of both. -/
namespace Go.Proofs.Ytpblhonnknmjjaa
open Go.RowKit
set_option linter.unusedVariables false
set_option linter.unusedSimpArgs false
attribute [local go_sem] Ext.cell

def maxL (l : List Int) : Int := l.foldl max 0
theorem maxL_snoc (l : List Int) (x : Int) : maxL (l ++ [x]) = max (maxL l) x := by unfold maxL; rw [List.foldl_append]; rfl
theorem maxL_range {b : Int} (hb : 0 ≤ b) : ∀ (l : List Int), (∀ x ∈ l, 0 ≤ x ∧ x ≤ b) → 0 ≤ maxL l ∧ maxL l ≤ b := by
  intro l
  unfold maxL
  suffices ∀ a, 0 ≤ a ∧ a ≤ b → (∀ x ∈ l, 0 ≤ x ∧ x ≤ b) → 0 ≤ l.foldl max a ∧ l.foldl max a ≤ b from this 0 ⟨by omega, hb⟩
  induction l with
  | nil => intro a ha _; exact ha
  | cons y l ih =>
    intro a ha h
    have hy := h y (by simp)
    exact ih (max a y) (by omega) fun x hx => h x (by simp [hx])
def deepF : Nat → PxT → Int
  | 0, _ => 0
  | f + 1, t => maxL (t.kids.map (deepF f)) + 1
theorem deepF_range : ∀ (f : Nat) (t : PxT), 0 ≤ deepF f t ∧ deepF f t ≤ f
  | 0, t => by simp [deepF]
  | f + 1, t => by
    have := maxL_range (b := f) (by omega) (t.kids.map (deepF f)) (by
      intro x hx
      obtain ⟨k, _, rfl⟩ := List.mem_map.1 hx
      exact deepF_range f k)
    unfold deepF
    omega

set_option maxRecDepth 100000 in
set_option maxHeartbeats 4000000 in
theorem deepOf_c : ∀ (f : Nat) (hf : f ≤ 1000) (S : Nat → Prop) (v : Value) (t : PxT) (w : World), PxR f S w v t →
    Calls Try.prog 31 #[v] w fun e w' => e = .returned (.int .i64 (deepF f t)) ∧ Below w.heap.size w w'
  | 0, hf, S, v, t, w, h => absurd h (by simp [PxR])
  | f + 1, hf, S, v, t, w, h => by
    have ih := deepOf_c f (by omega)
    have hd : deepF (f + 1) t = maxL (t.kids.map (deepF f)) + 1 := rfl
    obtain ⟨b, a, cap, rfl, -, -, hr, h1, h2, h3⟩ := h
    obtain ⟨-, -, -, e3⟩ := hr.box4
    have hR := fun j => deepF_range f j
    have hb := maxL_range (b := f) (by omega) (t.kids.map (deepF f)) (by
      intro x hx
      obtain ⟨k, _, rfl⟩ := List.mem_map.1 hx
      exact deepF_range f k)
    obtain ⟨m, hm⟩ : ∃ m, m = t.kids.length := ⟨_, rfl⟩
    rw [← hm] at e3 h1 h3
    replace hm := Lib.hid hm
    replace ih := Lib.hid ih; replace h3 := Lib.hid h3; replace hd := Lib.hid hd; replace hR := Lib.hid hR
    have hb' := World.block_lt_of_cell? _ _ e3
    clear hr
    go_enter Try.func31, Try.ntmps31
    go_wp2_with fail
    go_loopw [3, 11] (fun mo ii wr => ∃ (j : Nat) (z : Int), j ≤ m ∧ ii = .int .i64 j ∧ mo = .int .i64 z ∧ 0 ≤ z ∧ z ≤ 1000 ∧ Hid (z = maxL ((t.kids.take j).map (deepF f))) ∧ Below w.heap.size w wr) (fun _ ii _ => m - (intOf ii).toNat)
    case atStart => exact ⟨0, 0, by omega, rfl, rfl, by omega, by omega, rfl, Below.refl _ _⟩
    case round =>
      obtain ⟨j, z, hj, rfl, rfl, hz0, hz1, hz, hw⟩ := hrel
      by_cases hjm : j < m
      · obtain ⟨g, off, rfl, -, hk⟩ := h3.out (by omega)
        obtain ⟨k, hkj⟩ : ∃ k, t.kids[j]? = some k := ⟨_, List.getElem?_eq_getElem (by have := hm.out; omega)⟩
        obtain ⟨p, hp, hPR⟩ := hk j k hkj
        have e0 := cell_below hw hp
        have hc := ih.out S p k wr (hPR.below hw)
        have hdr := hR.out k
        have hst : maxL ((t.kids.take (j + 1)).map (deepF f)) = max (maxL ((t.kids.take j).map (deepF f))) (deepF f k) := by rw [take_snoc' hkj, List.map_append]; exact maxL_snoc _ _
        obtain ⟨pb, rfl⟩ := hPR.form
        generalize hdd : deepF f k = dd at *
        replace hst := Lib.hid hst; replace hdd := Lib.hid hdd
        clear hkj hPR hp hk
        go_wp2_with (go_at_call 31; refine hc.mono ?_; rintro e w1 ⟨rfl, hb1⟩)
        go_roundw
        case rel => exact ⟨j + 1, max z dd, by omega, by go_num, by congr 1; split <;> omega, by omega, by omega, by show _ = _; rw [hst.out, ← hz.out], hw.trans (hb1.mono hw.size)⟩
        case measure => simp [intOf]; omega
      · obtain rfl : j = m := by omega
        have hz' : z = maxL (t.kids.map (deepF f)) := by have h := hz.out; rw [List.take_of_length_le (by have := hm.out; omega)] at h; exact h
        have hdd : Hid (deepF (f + 1) t = z + 1) := by show _ = _; rw [hd.out, hz']
        clear hz' hz
        go_wp2_with fail
        go_returns
        exact ⟨by rw [hdd.out]; rfl, hw⟩

/-- How deep a right value is, 0 of what is none. -/
def dataDeep (d : GData) : Int := if dataOk d then deepF d.nodes.length (treeOf d.nodes d.nodes.length 0) else 0

set_option maxRecDepth 100000 in
set_option maxHeartbeats 4000000 in
theorem impl_DataDeep_c (d : GData) (r : List Value) (lo : Nat) (hbk : d.bulk ≤ 1048576) (w : World) (hr : GData.R lo w r d) :
    Calls Try.prog 14 #[.agg r.toArray] w fun e w' => e = .returned (.int .i64 (dataDeep d)) ∧ Below w.heap.size w w' := by
  have hd : d.nodes.length ≤ 1152921504606846976 := by have := length_le_bulkS GDNode.bulk_nonneg d.nodes; unfold GData.bulk at hbk; omega
  have c1 := fun W (hW : Below w.heap.size w W) => DataOk_c d hd r lo W (GData.good.below hr hW)
  clear hbk
  unfold dataDeep
  cases hok : dataOk d with
  | false =>
    rw [hok] at c1
    obtain ⟨u, rfl, -, hu⟩ := hr
    obtain ⟨a, c, rfl⟩ := hu.form
    clear hu
    replace c1 := Lib.hid c1
    generalize d.nodes.length = n at *
    go_enter Try.func14, Try.ntmps14
    go_upto_region 1 with fail
    have B : RowAt (w.alloc (.cells #[.slice a n c] 25)) (w.heap.size) 0 [.slice a n c] := RowAt.box w #[.slice a n c] 25
    have hw : Below w.heap.size w (w.alloc (.cells #[.slice a n c] 25)) := by go_grown
    generalize (w.alloc (.cells #[.slice a n c] 25)) = w0 at *
    have b_0 := B.box1; have hsB := World.block_lt_of_cell? _ _ b_0; dsimp only at hsB
    go_wp2_with (go_at_call 22; ((with_reducible refine (c1.out _ hw).mono ?_); rintro e w1 ⟨rfl, hb⟩; have hw := hw.trans (hb.mono hw.size); have B := B.below hb; have b_0 := B.box1; have hsB := World.block_lt_of_cell? _ _ b_0; dsimp only at hsB; clear hb))
    go_returns
    exact ⟨rfl, hw⟩
  | true =>
    rw [hok] at c1
    obtain ⟨hU, h0, hL⟩ := dataOk_up hok
    have hfew := dataOk_few hok
    have Hr := hr
    obtain ⟨u, rfl, -, hu⟩ := hr
    have c2 : ∀ W, Below w.heap.size w W → Calls Try.prog 27 #[u, .int .i64 0] W fun e w' => ∃ b, e = .returned (.pointer (some ⟨b, 0, none⟩)) ∧ PxR d.nodes.length (fun b => W.heap.size ≤ b) w' (.pointer (some ⟨b, 0, none⟩)) (treeOf d.nodes d.nodes.length 0) ∧ Below W.heap.size W w' := fun W hW => growData_c d.nodes hU hfew hL d.nodes.length 0 u lo W (hu.below GDNode.good hW) h0 (by omega)
    have c3 := fun v S W (hW : PxR d.nodes.length S W v (treeOf d.nodes d.nodes.length 0)) => deepOf_c d.nodes.length (by omega) S v (treeOf d.nodes d.nodes.length 0) W hW
    obtain ⟨a, c, rfl⟩ := hu.form
    clear hu Hr hU hfew hok
    generalize d.nodes.length = n at *
    generalize treeOf d.nodes n 0 = t at *
    generalize deepF n t = dd at *
    replace c1 := Lib.hid c1; replace c2 := Lib.hid c2; replace c3 := Lib.hid c3
    go_enter Try.func14, Try.ntmps14
    go_upto_region 1 with fail
    have B : RowAt (w.alloc (.cells #[.slice a n c] 25)) (w.heap.size) 0 [.slice a n c] := RowAt.box w #[.slice a n c] 25
    have hw : Below w.heap.size w (w.alloc (.cells #[.slice a n c] 25)) := by go_grown
    generalize (w.alloc (.cells #[.slice a n c] 25)) = w0 at *
    have b_0 := B.box1; have hsB := World.block_lt_of_cell? _ _ b_0; dsimp only at hsB
    go_wp2_with (first | (go_at_call 22; ((with_reducible refine (c1.out _ hw).mono ?_); rintro e w1 ⟨rfl, hb⟩; have hw := hw.trans (hb.mono hw.size); have B := B.below hb; have b_0 := B.box1; have hsB := World.block_lt_of_cell? _ _ b_0; dsimp only at hsB; clear hb)) | (go_at_call 27; ((with_reducible refine (c2.out _ hw).mono ?_); rintro e w1 ⟨pb, rfl, hP, hb⟩; have hw := hw.trans (hb.mono hw.size); have B := B.below hb; have b_0 := B.box1; have hsB := World.block_lt_of_cell? _ _ b_0; dsimp only at hsB; clear hb)) | (go_at_call 31; ((with_reducible refine (c3.out _ _ _ hP).mono ?_); rintro e w1 ⟨rfl, hb⟩; have hw := hw.trans (hb.mono hw.size); have B := B.below hb; have b_0 := B.box1; have hsB := World.block_lt_of_cell? _ _ b_0; dsimp only at hsB; clear hb)))
    go_returns
    exact ⟨rfl, hw⟩

end Go.Proofs.Ytpblhonnknmjjaa

/- The plain law of FnData: what is read back from a right value's text is that value. No program is walked here. -/
namespace Go.Proofs.Ytpblhonnknmjjaa
open Go.RowKit
set_option linter.unusedVariables false
set_option linter.unusedSimpArgs false

theorem maxL_start (l : List Int) : ∀ a, a ≤ l.foldl max a := by
  induction l with
  | nil => intro a; exact Int.le_refl _
  | cons x l ih => intro a; have := ih (max a x); simp only [List.foldl_cons]; omega
theorem maxL_mem {l : List Int} {x : Int} (h : x ∈ l) : x ≤ maxL l := by
  unfold maxL
  suffices ∀ a, x ≤ l.foldl max a from this 0
  induction l with
  | nil => cases h
  | cons y l ih =>
    intro a
    rw [List.foldl_cons]
    rcases List.mem_cons.1 h with rfl | h
    · have := maxL_start l (max a x); omega
    · exact ih h _
theorem maxL_nonneg (l : List Int) : 0 ≤ maxL l := maxL_start l 0
theorem deepF_kid {K : Nat} {t k : PxT} (h : k ∈ t.kids) : deepF K k + 1 ≤ deepF (K + 1) t := by
  have := maxL_mem (List.mem_map_of_mem (f := deepF K) h)
  show _ ≤ maxL (t.kids.map (deepF K)) + 1
  omega
theorem deepF_pos (K : Nat) (t : PxT) : 1 ≤ deepF (K + 1) t := by
  have := maxL_nonneg (t.kids.map (deepF K))
  show _ ≤ maxL (t.kids.map (deepF K)) + 1
  omega
/-- As many parentheses as levels will do. -/
theorem Right.deep {F : Nat} {t : PxT} {l : List UInt8} (h : Right F t l) : ∀ {K D : Nat}, deepF K t ≤ D → D < K → Right D t l := by
  induction h with
  | int h => intro K D h1 h2; obtain ⟨K, rfl⟩ : ∃ x, K = x + 1 := ⟨K - 1, by omega⟩; have := Int.le_trans (deepF_pos K _) h1; obtain ⟨D, rfl⟩ : ∃ x, D = x + 1 := ⟨D - 1, by omega⟩; exact .int h
  | str => intro K D h1 h2; obtain ⟨K, rfl⟩ : ∃ x, K = x + 1 := ⟨K - 1, by omega⟩; have := Int.le_trans (deepF_pos K _) h1; obtain ⟨D, rfl⟩ : ∃ x, D = x + 1 := ⟨D - 1, by omega⟩; exact .str
  | unit => intro K D h1 h2; obtain ⟨K, rfl⟩ : ∃ x, K = x + 1 := ⟨K - 1, by omega⟩; have := Int.le_trans (deepF_pos K _) h1; obtain ⟨D, rfl⟩ : ∃ x, D = x + 1 := ⟨D - 1, by omega⟩; exact .unit
  | con0 h => intro K D h1 h2; obtain ⟨K, rfl⟩ : ∃ x, K = x + 1 := ⟨K - 1, by omega⟩; have := Int.le_trans (deepF_pos K _) h1; obtain ⟨D, rfl⟩ : ∃ x, D = x + 1 := ⟨D - 1, by omega⟩; exact .con0 h
  | @pair F a b la lb _ _ ia ib =>
    intro K D h1 h2
    obtain ⟨K, rfl⟩ : ∃ x, K = x + 1 := ⟨K - 1, by omega⟩
    have h3 := deepF_kid (K := K) (t := tPair a b) (k := a) (by simp [tPair, PxT.kids])
    have h4 := deepF_kid (K := K) (t := tPair a b) (k := b) (by simp [tPair, PxT.kids])
    have h5 := (deepF_range K a).1
    obtain ⟨D, rfl⟩ : ∃ x, D = x + 1 := ⟨D - 1, by omega⟩
    exact .pair (ia (K := K) (by omega) (by omega)) (ib (K := K) (by omega) (by omega))
  | @cons F a b la lb _ _ ia ib =>
    intro K D h1 h2
    obtain ⟨K, rfl⟩ : ∃ x, K = x + 1 := ⟨K - 1, by omega⟩
    have h0 := deepF_kid (K := K) (t := tCons a b) (k := tPair a b) (by simp [tCons, PxT.kids])
    have h6 := (deepF_range K (tPair a b)).1
    obtain ⟨D, rfl⟩ : ∃ x, D = x + 1 := ⟨D - 1, by omega⟩
    obtain ⟨K, rfl⟩ : ∃ x, K = x + 1 := ⟨K - 1, by omega⟩
    have h3 := deepF_kid (K := K) (t := tPair a b) (k := a) (by simp [tPair, PxT.kids])
    have h4 := deepF_kid (K := K) (t := tPair a b) (k := b) (by simp [tPair, PxT.kids])
    have h5 := (deepF_range K a).1
    obtain ⟨D, rfl⟩ : ∃ x, D = x + 1 := ⟨D - 1, by omega⟩
    exact .cons (ia (K := K) (D := D) (by omega) (by omega)).succ (ib (K := K) (D := D) (by omega) (by omega)).succ
  | @con1 F s a la h _ ia =>
    intro K D h1 h2
    obtain ⟨K, rfl⟩ : ∃ x, K = x + 1 := ⟨K - 1, by omega⟩
    have h3 := deepF_kid (K := K) (t := tCon1 s a) (k := a) (by simp [tCon1, PxT.kids])
    have h5 := (deepF_range K a).1
    obtain ⟨D, rfl⟩ : ∃ x, D = x + 1 := ⟨D - 1, by omega⟩
    exact .con1 h (ia (K := K) (by omega) (by omega))

/-! ### The tree laid out again -/
theorem layK_congr {L L' : Nat → PxT → List GDNode} : ∀ (ks : List PxT) (nx : Nat), (∀ k ∈ ks, ∀ at_, L at_ k = L' at_ k) → layK L nx ks = layK L' nx ks
  | [], _, _ => rfl
  | k :: ks, nx, h => by
    rw [layK, layK, h k (by simp), layK_congr ks _ (fun c hc => h c (by simp [hc]))]
theorem layT_deep : ∀ (D K : Nat) (t : PxT), deepF K t ≤ D → D < K → ∀ F, D ≤ F → ∀ at_, layT F at_ t = layT D at_ t
  | 0, K, t, h1, h2, F, hF, at_ => by
    obtain ⟨K, rfl⟩ : ∃ x, K = x + 1 := ⟨K - 1, by omega⟩
    have := deepF_pos K t
    omega
  | D + 1, K, t, h1, h2, F, hF, at_ => by
    obtain ⟨K, rfl⟩ : ∃ x, K = x + 1 := ⟨K - 1, by omega⟩
    obtain ⟨F, rfl⟩ : ∃ x, F = x + 1 := ⟨F - 1, by omega⟩
    rw [layT, layT, layK_congr (L := layT F) (L' := layT D) t.kids _ (fun k hk at2 => layT_deep D K k (by have := deepF_kid (K := K) hk; omega) (by omega) F (by omega) at2)]
theorem deepF_tree (l : List GDNode) : ∀ (N i K : Nat), deepF K (treeOf l N i) ≤ N + 1
  | 0, i, 0 => by simp [deepF]
  | 0, i, K + 1 => by simp [deepF, treeOf, PxT.kids, maxL]
  | N + 1, i, 0 => by simp [deepF]; omega
  | N + 1, i, K + 1 => by
    show maxL ((treeOf l (N + 1) i).kids.map (deepF K)) + 1 ≤ _
    have h : maxL ((treeOf l (N + 1) i).kids.map (deepF K)) ≤ N + 1 := by
      unfold treeOf
      split
      · simp [PxT.kids, maxL]; omega
      · refine (maxL_range (b := N + 1) (by omega) _ (fun y hy => ?_)).2
        obtain ⟨k, hk, rfl⟩ := List.mem_map.1 hy
        obtain ⟨c, hc, rfl⟩ := List.mem_map.1 hk
        exact ⟨(deepF_range K _).1, deepF_tree l N c.toNat K⟩
    push_cast
    omega

theorem take_take_drop {l : List GDNode} {a b c : Nat} (h1 : a ≤ b) (h2 : b ≤ c) : (l.take c).drop a = (l.take b).drop a ++ (l.take c).drop b := by
  have e1 : l.take b = (l.take c).take b := by rw [List.take_take, Nat.min_eq_left h2]
  rw [e1]
  generalize l.take c = q
  have e2 : q.drop a = (q.take b ++ q.drop b).drop a := by rw [List.take_append_drop]
  by_cases hq : b ≤ q.length
  · rw [e2, List.drop_append_of_le_length (by rw [List.length_take]; omega)]
  · rw [List.take_of_length_le (by omega), List.drop_of_length_le (l := q) (i := b) (by omega), List.append_nil]
theorem kidsEnd_lay {E : Nat → Int} {l : List GDNode} {T : Int → PxT} {g : Nat → PxT → List GDNode} {P : Int → Prop} (hE : ∀ k, 0 ≤ E k → (k : Int) + 1 ≤ E k ∧ E k ≤ l.length) (hg : ∀ k : Nat, P k → 0 ≤ E k → g k (T k) = (l.take (E k).toNat).drop k) :
    ∀ (ks : List Int) (nx : Nat), (∀ k ∈ ks, P k) → 0 ≤ kidsEnd E nx ks → nx ≤ l.length → (nx : Int) ≤ kidsEnd E nx ks ∧ kidsEnd E nx ks ≤ l.length ∧ layK g nx (ks.map T) = (ks, (l.take (kidsEnd E nx ks).toNat).drop nx)
  | [], nx, _, h, hn => by
    unfold kidsEnd
    refine ⟨Int.le_refl _, by omega, ?_⟩
    rw [List.drop_of_length_le (by rw [List.length_take]; omega)]
    rfl
  | k :: ks, nx, hP, h, hn => by
    unfold kidsEnd at h ⊢
    split at h
    · omega
    · split at h
      · omega
      · rename_i h1 h2
        obtain rfl : k = (nx : Int) := by omega
        rw [Int.toNat_natCast] at h2 h
        have h3 := hE nx (by omega)
        have hc : ((E nx).toNat : Int) = E nx := Int.toNat_of_nonneg (by omega)
        rw [← hc] at h
        obtain ⟨h4, h6, h5⟩ := kidsEnd_lay hE hg ks (E nx).toNat (fun c hc => hP c (by simp [hc])) h (by omega)
        rw [if_neg h1, if_neg (by rw [Int.toNat_natCast]; exact h2), Int.toNat_natCast, ← hc]
        refine ⟨by omega, h6, ?_⟩
        have h7 := hg nx (hP _ (by simp)) (by omega)
        have hlen : (g nx (T nx)).length = (E nx).toNat - nx := by rw [h7, List.length_drop, List.length_take]; omega
        rw [List.map_cons, layK, hlen, show nx + ((E nx).toNat - nx) = (E nx).toNat by omega, h5, h7]
        congr 1
        exact (take_take_drop (by omega) (by omega)).symm
theorem lay_tree (l : List GDNode) (hU : Up l) : ∀ (F f g i : Nat), 0 ≤ ends l F i → l.length ≤ i + f → l.length ≤ i + g → layT g i (treeOf l f i) = (l.take (ends l F i).toNat).drop i
  | 0, f, g, i, h, _, _ => by simp [ends] at h
  | F + 1, f, g, i, h, hf, hg => by
    have hr := ends_range l (F + 1) i h
    unfold ends at h hr ⊢
    cases hx : l[i]? with
    | none => rw [hx] at h; simp at h
    | some x =>
      rw [hx] at h hr
      dsimp only at h hr ⊢
      have hi := (List.getElem?_eq_some_iff.1 hx).1
      have hup := hU i x hx
      match f, hf with
      | 0, hf => omega
      | f + 1, hf =>
        match g, hg with
        | 0, hg => omega
        | g + 1, hg =>
          rw [treeOf_some hx]
          have h0 : (0 : Int) ≤ kidsEnd (ends l F) ((i + 1 : Nat) : Int) x.kids := by push_cast; exact h
          obtain ⟨_, _, h5⟩ := kidsEnd_lay (E := ends l F) (l := l) (T := fun k => treeOf l f k.toNat) (g := layT g) (P := fun k => (i : Int) < k ∧ k < l.length) (fun k hk => ends_range l F k hk) (fun k hc hk => by
            (try dsimp only)
            rw [Int.toNat_natCast]
            exact lay_tree l hU F f g k hk (by omega) (by omega)) x.kids (i + 1) hup h0 (by omega)
          rw [layT]
          show GDNode.mk x.kind x.n x.s (layK (layT g) (i + 1) (x.kids.map fun k => treeOf l f k.toNat)).1 :: (layK (layT g) (i + 1) (x.kids.map fun k => treeOf l f k.toNat)).2 = _
          rw [h5]
          push_cast
          rw [List.drop_eq_getElem_cons (i := i) (by rw [List.length_take]; omega)]
          have e2 : (l.take (kidsEnd (ends l F) (↑i + 1) x.kids).toNat)[i]'(by rw [List.length_take]; omega) = x := by
            rw [List.getElem_take]
            exact (List.getElem?_eq_some_iff.1 hx).2
          rw [e2]
theorem data_lay {d : GData} (h : dataOk d = true) (g : Nat) (hg : d.nodes.length ≤ g) : layT g 0 (treeOf d.nodes d.nodes.length 0) = d.nodes := by
  obtain ⟨hU, h0, hL⟩ := dataOk_up h
  have he : ends d.nodes (d.nodes.length + 1) 0 = d.nodes.length := by
    unfold dataOk at h
    simp only [Bool.and_eq_true, decide_eq_true_eq] at h
    rw [show kidsAt d.nodes = (fun i => (d.nodes[i]?.map (·.kids)).getD []) from rfl, ← ends_eq] at h
    exact h.2.1
  have := lay_tree d.nodes hU (d.nodes.length + 1) d.nodes.length g 0 (by rw [he]; omega) (by omega) (by omega)
  rw [this, he, Int.toNat_natCast, List.take_length, List.drop_zero]
/-- Right values of the same text are the same. -/
theorem data_inj {a b : GData} (ha : dataOk a = true) (hb : dataOk b = true) (h : dataText a = dataText b) : a = b := by
  have ra := data_right ha
  have rb := data_right hb
  rw [h] at ra
  have e := ra.inj rb
  have la := data_lay ha (a.nodes.length + b.nodes.length) (by omega)
  have lb := data_lay hb (a.nodes.length + b.nodes.length) (by omega)
  rw [e, lb] at la
  obtain ⟨x⟩ := a
  obtain ⟨y⟩ := b
  exact congrArg GData.mk la.symm
theorem data_text {d : GData} (h : dataOk d = true) : dataText d ≠ ByteArray.empty := fun e => by
  obtain ⟨b, m, h1, _⟩ := (data_right h).head
  rw [e] at h1
  cases h1
theorem data_none {d : GData} (h : dataOk d = false) : dataText d = ByteArray.empty ∧ dataDeep d = 0 := by
  unfold dataText dataDeep
  rw [h]
  exact ⟨rfl, rfl⟩
theorem td_empty : textDataP ByteArray.empty = none := by
  have : readS 101 (fromB ByteArray.empty 0) = none := rfl
  unfold textDataP
  rw [this]
/-- What is read from a right value's text is that value. -/
theorem td_same {d e : GData} (h : dataOk d = true) (he : textDataP (dataText d) = some e) : e = d := by
  have ht : dataText e = dataText d := by
    unfold textDataP at he
    split at he
    · split at he
      · rename_i h1
        rw [← Option.some.inj he, h1]
      · cases he
    · cases he
  have ho : dataOk e = true := by
    cases hx : dataOk e with
    | true => rfl
    | false => exact absurd (ht.symm.trans (data_none hx).1) (data_text h)
  exact data_inj ho h ht
theorem td_some {d : GData} (h : dataOk d = true) (hd : dataDeep d ≤ 50) : ∃ e, textDataP (dataText d) = some e := by
  obtain ⟨hU, h0, hL⟩ := dataOk_up h
  have hr := data_right h
  have hdd : deepF d.nodes.length (treeOf d.nodes d.nodes.length 0) ≤ 50 := by unfold dataDeep at hd; rw [if_pos h] at hd; exact hd
  generalize ht : treeOf d.nodes d.nodes.length 0 = t at *
  -- at most 51 levels
  have hD : ∃ D K : Nat, deepF K t ≤ D ∧ D < K ∧ D ≤ 51 := by
    by_cases hN : d.nodes.length ≤ 50
    · exact ⟨d.nodes.length + 1, d.nodes.length + 2, by rw [← ht]; have := deepF_tree d.nodes d.nodes.length 0 (d.nodes.length + 2); push_cast; exact this, by omega, by omega⟩
    · exact ⟨50, d.nodes.length, hdd, by omega, by omega⟩
  obtain ⟨D, K, h1, h2, h3⟩ := hD
  have hR : Right 101 t (dataText d).data.toList := (hr.deep h1 h2).mono (by omega)
  have hread : readS 101 (fromB (dataText d) 0) = some (t, []) := by
    have := readS_right hR [] goodR_nil
    rw [List.append_nil] at this
    exact this
  have hlay : layT 203 0 t = d.nodes := by
    have e1 := layT_deep D K t h1 h2 203 (by omega) 0
    have e2 := layT_deep D K t h1 h2 (D + d.nodes.length) (by omega) 0
    have e3 := data_lay h (D + d.nodes.length) (by omega)
    rw [ht] at e3
    rw [e1, ← e2, e3]
  unfold textDataP
  rw [hread]
  dsimp only
  rw [hlay]
  exact ⟨⟨d.nodes⟩, if_pos rfl⟩
/-- The law, all ways. -/
theorem fd_law (d : GData) : (dataOk d = false ∧ dataText d = ByteArray.empty ∧ textDataP (dataText d) = none ∧ dataDeep d = 0) ∨
    (dataOk d = true ∧ dataText d ≠ ByteArray.empty ∧ ((textDataP (dataText d) = none ∧ 50 < dataDeep d) ∨ textDataP (dataText d) = some d)) := by
  cases h : dataOk d with
  | false =>
    obtain ⟨h1, h2⟩ := data_none h
    exact .inl ⟨rfl, h1, by rw [h1]; exact td_empty, h2⟩
  | true =>
    refine .inr ⟨rfl, data_text h, ?_⟩
    cases he : textDataP (dataText d) with
    | some e => exact .inr (by rw [td_same h he])
    | none =>
      refine .inl ⟨rfl, ?_⟩
      rcases Int.lt_or_le 50 (dataDeep d) with h1 | h1
      · exact h1
      · obtain ⟨e, he'⟩ := td_some h h1
        rw [he] at he'
        cases he'
end Go.Proofs.Ytpblhonnknmjjaa
