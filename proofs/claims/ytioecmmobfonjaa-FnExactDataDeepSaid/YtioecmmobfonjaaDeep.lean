/- How deep a value is: the program's deepOf, the reference's l21Deep; DataDeep of both. -/
import Derived.Test.YtioecmmobfonjaaGrowData
namespace Go.Proofs.Ytioecmmobfonjaa
open Go.RowKit
set_option linter.unusedVariables false
set_option linter.unusedSimpArgs false
attribute [local go_sem] Ext.cell

def maxL (l : List Int) : Int := l.foldl max 0
theorem maxL_snoc (l : List Int) (x : Int) : maxL (l ++ [x]) = max (maxL l) x := by unfold maxL; rw [List.foldl_append]; rfl
theorem maxL_range {b : Int} (hb : 0 ≤ b) : ∀ (l : List Int), (∀ x ∈ l, 0 ≤ x ∧ x ≤ b) → 0 ≤ maxL l ∧ maxL l ≤ b := by
  intro l
  unfold maxL
  suffices ∀ a, 0 ≤ a ∧ a ≤ b → (∀ x ∈ l, 0 ≤ x ∧ x ≤ b) → 0 ≤ l.foldl max a ∧ l.foldl max a ≤ b from this 0 ⟨by omega, hb⟩
  induction l with
  | nil => intro a ha _; exact ha
  | cons y l ih =>
    intro a ha h
    have hy := h y (by simp)
    exact ih (max a y) (by omega) fun x hx => h x (by simp [hx])
def deepF : Nat → PxT → Int
  | 0, _ => 0
  | f + 1, t => maxL (t.kids.map (deepF f)) + 1
theorem deepF_range : ∀ (f : Nat) (t : PxT), 0 ≤ deepF f t ∧ deepF f t ≤ f
  | 0, t => by simp [deepF]
  | f + 1, t => by
    have := maxL_range (b := f) (by omega) (t.kids.map (deepF f)) (by
      intro x hx
      obtain ⟨k, _, rfl⟩ := List.mem_map.1 hx
      exact deepF_range f k)
    unfold deepF
    omega

set_option maxRecDepth 100000 in
set_option maxHeartbeats 4000000 in
theorem deepOf_c : ∀ (f : Nat) (hf : f ≤ 1000) (S : Nat → Prop) (v : Value) (t : PxT) (w : World), PxR f S w v t →
    Calls Try.prog 58 #[v] w fun e w' => e = .returned (.int .i64 (deepF f t)) ∧ Below w.heap.size w w'
  | 0, hf, S, v, t, w, h => absurd h (by simp [PxR])
  | f + 1, hf, S, v, t, w, h => by
    have ih := deepOf_c f (by omega)
    have hd : deepF (f + 1) t = maxL (t.kids.map (deepF f)) + 1 := rfl
    obtain ⟨b, a, cap, rfl, -, -, hr, h1, h2, h3⟩ := h
    obtain ⟨-, -, -, e3⟩ := hr.box4
    have hR := fun j => deepF_range f j
    have hb := maxL_range (b := f) (by omega) (t.kids.map (deepF f)) (by
      intro x hx
      obtain ⟨k, _, rfl⟩ := List.mem_map.1 hx
      exact deepF_range f k)
    obtain ⟨m, hm⟩ : ∃ m, m = t.kids.length := ⟨_, rfl⟩
    rw [← hm] at e3 h1 h3
    replace hm := Lib.hid hm
    replace ih := Lib.hid ih; replace h3 := Lib.hid h3; replace hd := Lib.hid hd; replace hR := Lib.hid hR
    have hb' := World.block_lt_of_cell? _ _ e3
    clear hr
    go_enter Try.func58, Try.ntmps58
    go_wp2_with fail
    go_loopw [3, 11] (fun mo ii wr => ∃ (j : Nat) (z : Int), j ≤ m ∧ ii = .int .i64 j ∧ mo = .int .i64 z ∧ 0 ≤ z ∧ z ≤ 1000 ∧ Hid (z = maxL ((t.kids.take j).map (deepF f))) ∧ Below w.heap.size w wr) (fun _ ii _ => m - (intOf ii).toNat)
    case atStart => exact ⟨0, 0, by omega, rfl, rfl, by omega, by omega, rfl, Below.refl _ _⟩
    case round =>
      obtain ⟨j, z, hj, rfl, rfl, hz0, hz1, hz, hw⟩ := hrel
      by_cases hjm : j < m
      · obtain ⟨g, off, rfl, -, hk⟩ := h3.out (by omega)
        obtain ⟨k, hkj⟩ : ∃ k, t.kids[j]? = some k := ⟨_, List.getElem?_eq_getElem (by have := hm.out; omega)⟩
        obtain ⟨p, hp, hPR⟩ := hk j k hkj
        have e0 := cell_below hw hp
        have hc := ih.out S p k wr (hPR.below hw)
        have hdr := hR.out k
        have hst : maxL ((t.kids.take (j + 1)).map (deepF f)) = max (maxL ((t.kids.take j).map (deepF f))) (deepF f k) := by rw [take_snoc' hkj, List.map_append]; exact maxL_snoc _ _
        obtain ⟨pb, rfl⟩ := hPR.form
        generalize hdd : deepF f k = dd at *
        replace hst := Lib.hid hst; replace hdd := Lib.hid hdd
        clear hkj hPR hp hk
        go_wp2_with (go_at_call 58; refine hc.mono ?_; rintro e w1 ⟨rfl, hb1⟩)
        go_roundw
        case rel => exact ⟨j + 1, max z dd, by omega, by go_num, by congr 1; split <;> omega, by omega, by omega, by show _ = _; rw [hst.out, ← hz.out], hw.trans (hb1.mono hw.size)⟩
        case measure => simp [intOf]; omega
      · obtain rfl : j = m := by omega
        have hz' : z = maxL (t.kids.map (deepF f)) := by have h := hz.out; rw [List.take_of_length_le (by have := hm.out; omega)] at h; exact h
        have hdd : Hid (deepF (f + 1) t = z + 1) := by show _ = _; rw [hd.out, hz']
        clear hz' hz
        go_wp2_with fail
        go_returns
        exact ⟨by rw [hdd.out]; rfl, hw⟩

set_option maxRecDepth 100000 in
set_option maxHeartbeats 4000000 in
theorem l21Deep_c (d : GData) (hU : Up d.nodes) (hL : d.nodes.length ≤ 600) : ∀ (f i : Nat) (hf : f ≤ 1000) (r : List Value) (lo : Nat) (w : World), GData.R lo w r d → i < d.nodes.length → d.nodes.length ≤ i + f →
    Calls Try.prog 55 #[.agg r.toArray, .int .i64 i] w fun e w' => e = .returned (.int .i64 (deepF f (treeOf d.nodes f i))) ∧ Below w.heap.size w w'
  | 0, i, hf, r, lo, w, hu, hi, hl => absurd hl (by omega)
  | f + 1, i, hf, r, lo, w, hr, hi, hl => by
    have ih := fun i => l21Deep_c d hU hL f i (by omega)
    have Hr := hr
    obtain ⟨u, rfl, -, hu⟩ := hr
    obtain ⟨a, c, rfl, ul, um, h0⟩ := hu
    obtain ⟨b1, o1, x, s1, _, rfl, P1, hx, r1⟩ := h0.get (Lib.hid rfl) hi
    have P1 := P1.out
    have hT := treeOf_some (f := f) P1
    have hup := hU i x P1
    obtain ⟨kd, nn, s, ks⟩ := x
    obtain ⟨u0, rfl, -, hkd⟩ := hx
    obtain ⟨ka, kc, rfl, kl, km, k0⟩ := hkd
    dsimp only at *
    have hd : deepF (f + 1) (treeOf d.nodes (f + 1) i) = maxL (ks.map fun k => deepF f (treeOf d.nodes f k.toNat)) + 1 := by
      rw [hT]
      show maxL ((ks.map fun k => treeOf d.nodes f k.toNat).map (deepF f)) + 1 = _
      rw [List.map_map]; rfl
    have hb := maxL_range (b := f) (by omega) (ks.map fun k => deepF f (treeOf d.nodes f k.toNat)) (by
      intro x hx
      obtain ⟨k, _, rfl⟩ := List.mem_map.1 hx
      exact deepF_range f _)
    have hR := fun j => deepF_range f j
    obtain ⟨m, hm⟩ : ∃ m, m = ks.length := ⟨_, rfl⟩
    rw [← hm] at r1 kl
    replace hm := Lib.hid hm
    have e_3 : w.cell? ⟨b1, o1 + i * 4 + 3, none⟩ = some (.slice ka m kc) := by simpa using r1 3 _ rfl
    have hb1 := World.block_lt_of_cell? _ _ e_3
    clear r1 h0 hT
    replace ih := Lib.hid ih; replace hd := Lib.hid hd; replace hR := Lib.hid hR; replace k0 := Lib.hid k0; replace hup := Lib.hid hup
    replace Hr := Lib.hid Hr
    clear hU
    generalize hn : d.nodes.length = n at *
    replace hn := Lib.hid hn
    go_enter Try.func55, Try.ntmps55
    go_upto_region 1 with fail
    have B : RowAt (w.alloc (.cells #[.slice (some ⟨b1, o1, none⟩) n c] 59)) (w.heap.size) 0 [.slice (some ⟨b1, o1, none⟩) n c] := RowAt.box w #[.slice (some ⟨b1, o1, none⟩) n c] 59
    have hw : Below w.heap.size w (w.alloc (.cells #[.slice (some ⟨b1, o1, none⟩) n c] 59)) := by go_grown
    generalize (w.alloc (.cells #[.slice (some ⟨b1, o1, none⟩) n c] 59)) = w0 at *
    have e_3' := cell_below hw e_3
    have b_0 := B.box1; have hsB := World.block_lt_of_cell? _ _ b_0; dsimp only at hsB
    clear e_3
    go_wp2_with fail
    go_loopw [5, 16] (fun mo ii wr => ∃ (j : Nat) (z : Int), j ≤ m ∧ ii = .int .i64 j ∧ mo = .int .i64 z ∧ 0 ≤ z ∧ z ≤ 1000 ∧ Hid (z = maxL ((ks.take j).map fun k => deepF f (treeOf d.nodes f k.toNat))) ∧ Below w.heap.size w wr ∧ RowAt wr w.heap.size 0 [.slice (some ⟨b1, o1, none⟩) n c]) (fun _ ii _ => m - (intOf ii).toNat)
    case atStart => exact ⟨0, 0, by omega, rfl, rfl, by omega, by omega, rfl, hw, B⟩
    case round =>
      clear hw B b_0 hsB e_3'
      obtain ⟨j, z, hj, rfl, rfl, hz0, hz1, hz, hw, B⟩ := hrel
      have b_0 := B.box1; have hsB := World.block_lt_of_cell? _ _ b_0; dsimp only at hsB
      by_cases hjm : j < m
      · obtain ⟨b2, o2, k, s2, _, rfl, P2, ⟨rfl, hk64⟩, r2⟩ := ((k0.out.below IntR.good hw).get hm hjm)
        have e0 : wr.cell? ⟨b2, o2 + j, none⟩ = some (.int .i64 k) := by simpa using r2 0 _ rfl
        have hk := hup.out k (List.mem_of_getElem? P2.out)
        obtain ⟨q, rfl⟩ : ∃ q : Nat, k = q := ⟨k.toNat, by omega⟩
        have hc := fun W (hW : Below w.heap.size w W) => ih.out q [.slice (some ⟨b1, o1, none⟩) n c] lo W (GData.good.below Hr.out hW) (by have := hn.out; omega) (by have := hn.out; omega)
        have hdr := hR.out (treeOf d.nodes f q)
        have hst : maxL ((ks.take (j + 1)).map fun k => deepF f (treeOf d.nodes f k.toNat)) = max (maxL ((ks.take j).map fun k => deepF f (treeOf d.nodes f k.toNat))) (deepF f (treeOf d.nodes f q)) := by rw [take_snoc' P2.out, List.map_append]; exact maxL_snoc _ _
        generalize hdd : deepF f (treeOf d.nodes f q) = dd at *
        replace hst := Lib.hid hst; replace hdd := Lib.hid hdd; replace hc := Lib.hid hc
        clear r2 P2
        by_cases hlt : z < dd
        · go_wp2_with (go_at_call 55; ((with_reducible refine (hc.out _ hw).mono ?_); rintro e w1 ⟨rfl, hb⟩; have hw := hw.trans (hb.mono hw.size); have B := B.below hb; have b_0 := B.box1; have hsB := World.block_lt_of_cell? _ _ b_0; dsimp only at hsB; clear hb))
          go_roundw
          case rel => exact ⟨j + 1, dd, by omega, by go_num, rfl, by omega, by omega, by show _ = _; rw [hst.out, ← hz.out]; omega, hw, B⟩
          case measure => simp [intOf]; omega
        · go_wp2_with (go_at_call 55; ((with_reducible refine (hc.out _ hw).mono ?_); rintro e w1 ⟨rfl, hb⟩; have hw := hw.trans (hb.mono hw.size); have B := B.below hb; have b_0 := B.box1; have hsB := World.block_lt_of_cell? _ _ b_0; dsimp only at hsB; clear hb))
          go_roundw
          case rel => exact ⟨j + 1, z, by omega, by go_num, rfl, by omega, by omega, by show _ = _; rw [hst.out, ← hz.out]; omega, hw, B⟩
          case measure => simp [intOf]; omega
      · obtain rfl : j = m := by omega
        have hz' : z = maxL (ks.map fun k => deepF f (treeOf d.nodes f k.toNat)) := by have h := hz.out; rw [List.take_of_length_le (by have := hm.out; omega)] at h; exact h
        have hdd : Hid (deepF (f + 1) (treeOf d.nodes (f + 1) i) = z + 1) := by show _ = _; rw [hd.out, hz']
        clear hz' hz
        go_wp2_with fail
        go_returns
        exact ⟨by rw [hdd.out]; rfl, hw⟩

/-- How deep a right value is, 0 of what is none. -/
def dataDeep (d : GData) : Int := if dataOk d then deepF d.nodes.length (treeOf d.nodes d.nodes.length 0) else 0

set_option maxRecDepth 100000 in
set_option maxHeartbeats 4000000 in
theorem impl_DataDeep_c (d : GData) (r : List Value) (lo : Nat) (hbk : d.bulk ≤ 1048576) (w : World) (hr : GData.R lo w r d) :
    Calls Try.prog 33 #[.agg r.toArray] w fun e w' => e = .returned (.int .i64 (dataDeep d)) ∧ Below w.heap.size w w' := by
  have hd : d.nodes.length ≤ 1152921504606846976 := by have := length_le_bulkS GDNode.bulk_nonneg d.nodes; unfold GData.bulk at hbk; omega
  have c1 := fun W (hW : Below w.heap.size w W) => DataOk_c d hd r lo W (GData.good.below hr hW)
  clear hbk
  unfold dataDeep
  cases hok : dataOk d with
  | false =>
    rw [hok] at c1
    obtain ⟨u, rfl, -, hu⟩ := hr
    obtain ⟨a, c, rfl⟩ := hu.form
    clear hu
    replace c1 := Lib.hid c1
    generalize d.nodes.length = n at *
    go_enter Try.func33, Try.ntmps33
    go_upto_region 1 with fail
    have B : RowAt (w.alloc (.cells #[.slice a n c] 59)) (w.heap.size) 0 [.slice a n c] := RowAt.box w #[.slice a n c] 59
    have hw : Below w.heap.size w (w.alloc (.cells #[.slice a n c] 59)) := by go_grown
    generalize (w.alloc (.cells #[.slice a n c] 59)) = w0 at *
    have b_0 := B.box1; have hsB := World.block_lt_of_cell? _ _ b_0; dsimp only at hsB
    go_wp2_with (go_at_call 57; ((with_reducible refine (c1.out _ hw).mono ?_); rintro e w1 ⟨rfl, hb⟩; have hw := hw.trans (hb.mono hw.size); have B := B.below hb; have b_0 := B.box1; have hsB := World.block_lt_of_cell? _ _ b_0; dsimp only at hsB; clear hb))
    go_returns
    exact ⟨rfl, hw⟩
  | true =>
    rw [hok] at c1
    obtain ⟨hU, h0, hL⟩ := dataOk_up hok
    have hfew := dataOk_few hok
    have Hr := hr
    obtain ⟨u, rfl, -, hu⟩ := hr
    have c2 : ∀ W, Below w.heap.size w W → Calls Try.prog 59 #[u, .int .i64 0] W fun e w' => ∃ b, e = .returned (.pointer (some ⟨b, 0, none⟩)) ∧ PxR d.nodes.length (fun b => W.heap.size ≤ b) w' (.pointer (some ⟨b, 0, none⟩)) (treeOf d.nodes d.nodes.length 0) ∧ Below W.heap.size W w' := fun W hW => growData_c d.nodes hU hfew hL d.nodes.length 0 u lo W (hu.below GDNode.good hW) h0 (by omega)
    have c3 := fun v S W (hW : PxR d.nodes.length S W v (treeOf d.nodes d.nodes.length 0)) => deepOf_c d.nodes.length (by omega) S v (treeOf d.nodes d.nodes.length 0) W hW
    obtain ⟨a, c, rfl⟩ := hu.form
    clear hu Hr hU hfew hok
    generalize d.nodes.length = n at *
    generalize treeOf d.nodes n 0 = t at *
    generalize deepF n t = dd at *
    replace c1 := Lib.hid c1; replace c2 := Lib.hid c2; replace c3 := Lib.hid c3
    go_enter Try.func33, Try.ntmps33
    go_upto_region 1 with fail
    have B : RowAt (w.alloc (.cells #[.slice a n c] 59)) (w.heap.size) 0 [.slice a n c] := RowAt.box w #[.slice a n c] 59
    have hw : Below w.heap.size w (w.alloc (.cells #[.slice a n c] 59)) := by go_grown
    generalize (w.alloc (.cells #[.slice a n c] 59)) = w0 at *
    have b_0 := B.box1; have hsB := World.block_lt_of_cell? _ _ b_0; dsimp only at hsB
    go_wp2_with (first | (go_at_call 57; ((with_reducible refine (c1.out _ hw).mono ?_); rintro e w1 ⟨rfl, hb⟩; have hw := hw.trans (hb.mono hw.size); have B := B.below hb; have b_0 := B.box1; have hsB := World.block_lt_of_cell? _ _ b_0; dsimp only at hsB; clear hb)) | (go_at_call 59; ((with_reducible refine (c2.out _ hw).mono ?_); rintro e w1 ⟨pb, rfl, hP, hb⟩; have hw := hw.trans (hb.mono hw.size); have B := B.below hb; have b_0 := B.box1; have hsB := World.block_lt_of_cell? _ _ b_0; dsimp only at hsB; clear hb)) | (go_at_call 58; ((with_reducible refine (c3.out _ _ _ hP).mono ?_); rintro e w1 ⟨rfl, hb⟩; have hw := hw.trans (hb.mono hw.size); have B := B.below hb; have b_0 := B.box1; have hsB := World.block_lt_of_cell? _ _ b_0; dsimp only at hsB; clear hb)))
    go_returns
    exact ⟨rfl, hw⟩

set_option maxRecDepth 100000 in
set_option maxHeartbeats 4000000 in
theorem spec_DataDeep_c (d : GData) (r : List Value) (lo : Nat) (hbk : d.bulk ≤ 1048576) (w : World) (hr : GData.R lo w r d) :
    Calls Try.prog 31 #[.agg r.toArray] w fun e w' => e = .returned (.int .i64 (dataDeep d)) ∧ Below w.heap.size w w' := by
  have hd : d.nodes.length ≤ 1152921504606846976 := by have := length_le_bulkS GDNode.bulk_nonneg d.nodes; unfold GData.bulk at hbk; omega
  have c1 := fun W (hW : Below w.heap.size w W) => specDataOk_c d hd r lo W (GData.good.below hr hW)
  clear hbk
  unfold dataDeep
  cases hok : dataOk d with
  | false =>
    rw [hok] at c1
    obtain ⟨u, rfl, -, hu⟩ := hr
    obtain ⟨a, c, rfl⟩ := hu.form
    clear hu
    replace c1 := Lib.hid c1
    generalize d.nodes.length = n at *
    go_enter Try.func31, Try.ntmps31
    go_wp2_with (go_at_call 54; ((with_reducible refine (c1.out _ (by go_grown)).mono ?_); rintro e w1 ⟨rfl, hb⟩))
    go_returns
    exact ⟨rfl, Below.trans (by go_grown) (hb.mono (by go_grown))⟩
  | true =>
    rw [hok] at c1
    obtain ⟨hU, h0, hL⟩ := dataOk_up hok
    have c2 : ∀ W, Below w.heap.size w W → Calls Try.prog 55 #[.agg r.toArray, .int .i64 0] W fun e w' => e = .returned (.int .i64 (deepF d.nodes.length (treeOf d.nodes d.nodes.length 0))) ∧ Below W.heap.size W w' := fun W hW => l21Deep_c d hU hL d.nodes.length 0 (by omega) r lo W (GData.good.below hr hW) h0 (by omega)
    obtain ⟨u, rfl, -, hu⟩ := hr
    obtain ⟨a, c, rfl⟩ := hu.form
    clear hu hU hok
    generalize d.nodes.length = n at *
    generalize deepF n (treeOf d.nodes n 0) = dd at *
    replace c1 := Lib.hid c1; replace c2 := Lib.hid c2
    go_enter Try.func31, Try.ntmps31
    go_upto_region 1 with fail
    have B : RowAt (w.alloc (.cells #[.slice a n c] 59)) (w.heap.size) 0 [.slice a n c] := RowAt.box w #[.slice a n c] 59
    have hw : Below w.heap.size w (w.alloc (.cells #[.slice a n c] 59)) := by go_grown
    generalize (w.alloc (.cells #[.slice a n c] 59)) = w0 at *
    have b_0 := B.box1; have hsB := World.block_lt_of_cell? _ _ b_0; dsimp only at hsB
    go_wp2_with (first | (go_at_call 54; ((with_reducible refine (c1.out _ hw).mono ?_); rintro e w1 ⟨rfl, hb⟩; have hw := hw.trans (hb.mono hw.size); have B := B.below hb; have b_0 := B.box1; have hsB := World.block_lt_of_cell? _ _ b_0; dsimp only at hsB; clear hb)) | (go_at_call 55; ((with_reducible refine (c2.out _ hw).mono ?_); rintro e w1 ⟨rfl, hb⟩; have hw := hw.trans (hb.mono hw.size); have B := B.below hb; have b_0 := B.box1; have hsB := World.block_lt_of_cell? _ _ b_0; dsimp only at hsB; clear hb)))
    go_returns
    exact ⟨rfl, hw⟩

end Go.Proofs.Ytioecmmobfonjaa
