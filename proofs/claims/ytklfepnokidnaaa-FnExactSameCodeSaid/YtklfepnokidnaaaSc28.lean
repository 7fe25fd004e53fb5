/- Parts of the proof, merged: PText6, GrowPat. -/
import Derived.Deep.RegionHeld3
import Derived.Deep.RegionLaw
import Derived.Test.YtklfepnokidnaaaSc27
/- The tree of a right pattern: its shape, and how long its text may be. -/
namespace Go.Proofs.Ytklfepnokidnaaa
open Go.RowKit
set_option linter.unusedVariables false
set_option linter.unusedSimpArgs false

theorem patOk_parts {d : GData} (h : patOk d = true) : 1 ≤ d.nodes.length ∧ d.nodes.length ≤ 600 ∧ endsK d.nodes.length (kidsAt d.nodes) (d.nodes.length + 1) 0 = d.nodes.length ∧ ∀ (j : Nat) x, d.nodes[j]? = some x → pnOk d.nodes x = true := by
  unfold patOk at h
  simp only [Bool.and_eq_true, decide_eq_true_eq, Bool.not_eq_true'] at h
  obtain ⟨h1, h2, h3, _⟩ := h
  refine ⟨by omega, by omega, h2, fun j x hx => ?_⟩
  rw [List.any_eq_false] at h3
  have := h3 x (List.mem_of_getElem? hx)
  simpa using this
theorem patOk_up {d : GData} (h : patOk d = true) : Up d.nodes ∧ 0 < d.nodes.length ∧ d.nodes.length ≤ 600 := by
  obtain ⟨h0, h1, h2, _⟩ := patOk_parts h
  rw [show kidsAt d.nodes = (fun i => (d.nodes[i]?.map (·.kids)).getD []) from rfl, ← ends_eq] at h2
  refine ⟨fun j x hx => ?_, by omega, by omega⟩
  have hj := (List.getElem?_eq_some_iff.1 hx).1
  exact ends_up d.nodes (d.nodes.length + 1) 0 (by omega) j (by omega) (by omega) x hx
theorem pnOk_few {l : List GDNode} {x : GDNode} (h : pnOk l x = true) : x.kids.length ≤ 2 := by
  obtain ⟨kd, nn, s, ks⟩ := x
  show ks.length ≤ 2
  rcases pnOk_kind l kd nn s ks with ⟨_, e⟩ | ⟨_, e⟩ | ⟨_, e⟩ | ⟨_, e⟩ | ⟨_, e⟩ | ⟨_, _, _, _, _, _, e⟩
  all_goals rw [h] at e; replace e := e.symm; (try simp only [Bool.and_eq_true, beq_iff_eq] at e)
  · omega
  · omega
  · omega
  · have := conShape_le e.2; omega
  · omega
  · cases e
theorem patOk_few {d : GData} (h : patOk d = true) : ∀ (j : Nat) x, d.nodes[j]? = some x → x.kids.length ≤ 2 := fun j x hx => pnOk_few ((patOk_parts h).2.2.2 j x hx)
theorem treeOf_ptok (l : List GDNode) (hU : Up l) (hok : ∀ (j : Nat) x, l[j]? = some x → pnOk l x = true) (hwf : ∀ (j : Nat) x, l[j]? = some x → x.wf) : ∀ (f i : Nat), i < l.length → l.length ≤ i + f → PTOk f (treeOf l f i)
  | 0, i, hi, hf => absurd hf (by omega)
  | f + 1, i, hi, hf => by
    obtain ⟨x, hx⟩ : ∃ x, l[i]? = some x := ⟨_, List.getElem?_eq_getElem hi⟩
    rw [treeOf_some hx]
    have hup := hU i x hx
    have hn := hok i x hx
    refine ⟨hwf i x hx, ?_, fun k hk => ?_⟩
    · obtain ⟨kd, nn, s, ks⟩ := x
      simp only [PxT.kind, PxT.kids, PxT.s] at *
      rcases pnOk_kind l kd nn s ks with ⟨e, h⟩ | ⟨e, h⟩ | ⟨e, h⟩ | ⟨e, h⟩ | ⟨e, h⟩ | ⟨_, _, _, _, _, _, h⟩
      all_goals rw [hn] at h; replace h := h.symm; (try simp only [Bool.and_eq_true, beq_iff_eq] at h)
      · have : ks = [] := List.length_eq_zero_iff.1 (by omega)
        subst this; exact .inl ⟨by omega, rfl⟩
      · have : ks = [] := List.length_eq_zero_iff.1 (by omega)
        subst this; exact .inl ⟨by omega, rfl⟩
      · have : ks = [] := List.length_eq_zero_iff.1 (by omega)
        subst this; exact .inl ⟨by omega, rfl⟩
      · refine .inr (.inr ⟨e, ?_⟩)
        have hl := conShape_le h.2
        match ks, hl with
        | [], _ => exact .inl rfl
        | [k], _ =>
          refine .inr ⟨_, rfl, fun hs => ?_⟩
          have hp := conShape_cons hs h.2
          have hk := hup k (by simp)
          obtain ⟨q, rfl⟩ : ∃ q : Nat, k = q := ⟨k.toNat, by omega⟩
          obtain ⟨y, hy⟩ : ∃ y, l[q]? = some y := ⟨_, List.getElem?_eq_getElem (by omega)⟩
          have h5 : y.kind = 5 := by
            unfold pairOf kindAt at hp
            simp [hy] at hp
            exact hp
          match f, (show f ≠ 0 by omega) with
          | f + 1, _ =>
            show (treeOf l (f + 1) ((q : Int).toNat)).kind = 5
            rw [Int.toNat_natCast, treeOf_some hy]
            exact h5
        | _ :: _ :: _, hl => simp at hl; omega
      · match ks, h.1 with
        | [a, b], _ => exact .inr (.inl ⟨e, _, _, rfl⟩)
        | [], h => simp at h
        | [_], h => simp at h
        | _ :: _ :: _ :: _, h => simp at h; omega
      · cases h
    · obtain ⟨k', hk', rfl⟩ := List.mem_map.1 hk
      have := hup k' hk'
      exact treeOf_ptok l hU hok hwf f k'.toNat (by omega) (by omega)

theorem wt_pat {d : GData} (h : patOk d = true) (hb : d.bulk ≤ 1048576) : wt d.nodes.length (treeOf d.nodes d.nodes.length 0) ≤ 1073741824 := by
  obtain ⟨_, h0, h6⟩ := patOk_up h
  unfold patOk at h
  simp only [Bool.and_eq_true, decide_eq_true_eq] at h
  obtain ⟨h1, h2, _⟩ := h
  rw [show kidsAt d.nodes = (fun i => (d.nodes[i]?.map (·.kids)).getD []) from rfl, ← ends_eq] at h2
  have h3 := wt_ends d.nodes (d.nodes.length + 1) 0 d.nodes.length (by omega)
  rw [h2, Int.toNat_natCast] at h3
  have h4 := sum_pre d.nodes
  have h5 : pre d.nodes d.nodes.length = (d.nodes.map fun x => 4 * x.s.size + 30).sum := by unfold pre; rw [List.take_length]
  unfold GData.bulk at hb
  rw [h5] at h3
  omega


end Go.Proofs.Ytklfepnokidnaaa

/- The program's growPat: the tree of a pattern's node. -/
namespace Go.Proofs.Ytklfepnokidnaaa
open Go.RowKit
set_option linter.unusedVariables false
set_option linter.unusedSimpArgs false
attribute [local go_sem] Ext.cell

theorem info_ppx : (Try.prog.info? 72).map (fun i => (i.zero, i.size, i.bytes)) = some (some (.pointer none), 1, 8) := by kernel_rfl

set_option maxRecDepth 100000 in
set_option maxHeartbeats 8000000 in
theorem growPat_c (l : List GDNode) (hU : Up l) (hfew : ∀ (j : Nat) x, l[j]? = some x → x.kids.length ≤ 2) (hL : l.length ≤ 600) : ∀ (f i : Nat) (u : Value) (lo : Nat) (w : World), Sl GDNode.R 4 lo w u l → i < l.length → l.length ≤ i + f →
    Calls Try.prog 47 #[u, .int .i64 i] w fun e w' => ∃ b, e = .returned (.pointer (some ⟨b, 0, none⟩)) ∧ PxR f (fun b => w.heap.size ≤ b) w' (.pointer (some ⟨b, 0, none⟩)) (treeOf l f i) ∧ Below w.heap.size w w'
  | 0, i, u, lo, w, hu, hi, hf => absurd hf (by omega)
  | f + 1, i, u, lo, w, hu, hi, hf => by
    have ih := growPat_c l hU hfew hL f
    have Hu := hu
    obtain ⟨a, c, rfl, ul, um, h0⟩ := hu
    obtain ⟨b1, o1, x, s1, _, rfl, P1, hx, r1⟩ := h0.get (Lib.hid rfl) hi
    have P1 := P1.out
    have hT := treeOf_some (f := f) P1
    have hup := hU i x P1
    have hf2 := hfew i x P1
    obtain ⟨kd, nn, s, ks⟩ := x
    obtain ⟨u0, rfl, hwf, hkd⟩ := hx
    obtain ⟨ka, kc, rfl, kl, km, k0⟩ := hkd
    dsimp only at *
    obtain ⟨m, hm⟩ : ∃ m, m = ks.length := ⟨_, rfl⟩
    rw [← hm] at r1 kl hf2
    replace hm := Lib.hid hm
    obtain ⟨e_0, e_1, e_2, e_3⟩ := r1.cells4
    obtain ⟨i0, hi0, hz0, hz1, hz2⟩ := info_parts info_ppx
    have I := Lib.hid hi0; have I0 := Lib.hid hz0; have I1 := Lib.hid hz1; have I2 := Lib.hid hz2
    clear r1 hi0 hz0 hz1 hz2 P1 h0
    replace k0 := Lib.hid k0; replace hup := Lib.hid hup; replace ih := Lib.hid ih; replace hT := Lib.hid hT
    replace Hu := Lib.hid Hu
    clear hU hfew
    generalize hn : l.length = n at *
    replace hn := Lib.hid hn
    go_enter Try.func47, Try.ntmps47
    go_upto_region 4 with fail
    have hfz : ((w.alloc (.cells #[.int .i64 kd, .int .i64 nn, .string s, .slice ka m kc] 77)).alloc (.cells #[.int .i64 kd, .int .i64 nn, .string s, .slice none 0 0] 100)).frozen? ⟨w.heap.size + 1, 3, none⟩ = false := by go_simp
    have N : RowAt (w.alloc (.cells #[.int .i64 kd, .int .i64 nn, .string s, .slice ka m kc] 77)) (w.heap.size) 0 [.int .i64 kd, .int .i64 nn, .string s, .slice ka m kc] := RowAt.box w #[.int .i64 kd, .int .i64 nn, .string s, .slice ka m kc] 77
    have N := N.below (show Below (w.alloc (.cells #[.int .i64 kd, .int .i64 nn, .string s, .slice ka m kc] 77)).heap.size (w.alloc (.cells #[.int .i64 kd, .int .i64 nn, .string s, .slice ka m kc] 77)) ((w.alloc (.cells #[.int .i64 kd, .int .i64 nn, .string s, .slice ka m kc] 77)).alloc (.cells #[.int .i64 kd, .int .i64 nn, .string s, .slice none 0 0] 100)) by go_grown)
    have O : RowAt ((w.alloc (.cells #[.int .i64 kd, .int .i64 nn, .string s, .slice ka m kc] 77)).alloc (.cells #[.int .i64 kd, .int .i64 nn, .string s, .slice none 0 0] 100)) (w.heap.size + 1) 0 [.int .i64 kd, .int .i64 nn, .string s, .slice none 0 0] := by have h := RowAt.box (w.alloc (.cells #[.int .i64 kd, .int .i64 nn, .string s, .slice ka m kc] 77)) #[.int .i64 kd, .int .i64 nn, .string s, .slice none 0 0] 100; simp only [World.size_alloc] at h; exact h
    have hw : Below w.heap.size w ((w.alloc (.cells #[.int .i64 kd, .int .i64 nn, .string s, .slice ka m kc] 77)).alloc (.cells #[.int .i64 kd, .int .i64 nn, .string s, .slice none 0 0] 100)) := by go_grown
    generalize ((w.alloc (.cells #[.int .i64 kd, .int .i64 nn, .string s, .slice ka m kc] 77)).alloc (.cells #[.int .i64 kd, .int .i64 nn, .string s, .slice none 0 0] 100)) = w0 at *
    have hO := O.box4.1
    go_loopw [24] (fun ii wr => ∃ (j : Nat) (vs : List Value) (v : Value), j ≤ m ∧ ii = .int .i64 j ∧ Below w.heap.size w wr ∧ RowAt wr (w.heap.size + 1) 0 [.int .i64 kd, .int .i64 nn, .string s, v] ∧ wr.frozen? ⟨w.heap.size + 1, 3, none⟩ = false ∧
        Hid (KidsOwn wr (w.heap.size + 2) 72 f vs ((ks.take j).map fun k => treeOf l f k.toNat) v) ∧ w.heap.size + 2 ≤ wr.heap.size) (fun ii _ => m - (intOf ii).toNat)
    case atStart => exact ⟨0, [], _, by omega, rfl, hw, O, hfz, KidsOwn.nil _ _ _ _, World.block_lt_of_cell? _ _ hO⟩
    case round =>
      clear hO O N hw hfz
      obtain ⟨j, vs, v, hj, rfl, hw, O, hfz, hK, hz⟩ := hrel
      obtain ⟨ma, mcap, rfl⟩ := hK.out.form
      by_cases hjm : j < m
      · obtain ⟨b2, o2, k, s2, _, rfl, P2, ⟨rfl, hk64⟩, r2⟩ := ((k0.out.below IntR.good hw).get hm hjm)
        have e0 : wr.cell? ⟨b2, o2 + j, none⟩ = some (.int .i64 k) := by simpa using r2 0 _ rfl
        have hk := hup.out k (List.mem_of_getElem? P2.out)
        obtain ⟨q, rfl⟩ : ∃ q : Nat, k = q := ⟨k.toNat, by omega⟩
        have hst : (ks.take (j + 1)).map (fun k => treeOf l f k.toNat) = (ks.take j).map (fun k => treeOf l f k.toNat) ++ [treeOf l f q] := by rw [take_snoc' P2.out]; simp
        have hlen : ((ks.take j).map fun k => treeOf l f k.toNat).length = j := by have := hm.out; simp; omega
        have hc := fun W (hW : Below w.heap.size w W) => ih.out q (.slice (some ⟨b1, o1, none⟩) n c) lo W (Hu.out.below GDNode.good hW) (by have := hn.out; omega) (by have := hn.out; omega)
        rw [hlen] at O
        replace hc := Lib.hid hc
        obtain ⟨o_0, o_1, o_2, o_3⟩ := O.box4
        have hw2 := hw.size
        clear r2 P2
        replace hK : Hid (KidsOwn wr (w.heap.size + 2) 72 f vs ((ks.take j).map fun k => treeOf l f k.toNat) (.slice ma j mcap)) := by have h := hK.out; rw [hlen] at h; exact h
        have hown0 : wr.ownsRow (w.heap.size + 2) 72 1 (.slice ma j mcap) j vs := by have h := hK.out.2.1; rw [hlen] at h; exact h
        have hne : ∀ g, (Value.slice ma j mcap).ownBlock = some g → w.heap.size + 2 ≤ g ∧ g < wr.heap.size := own_base hown0
        replace hown0 := Lib.hid hown0
        replace hne := Lib.hid hne
        replace hst := Lib.hid hst
        replace hlen := Lib.hid hlen
        go_wp2_with fail
        go_region_law
          (first
            | (go_simp; go_at_call 47; refine (hc.out _ (by go_grown)).mono ?_; rintro e w1 ⟨pb, rfl, hR, hb⟩; have hb' : Below wr.heap.size wr w1 := Below.trans (show Below wr.heap.size wr wr.drew by go_grown) (hb.mono (by simp)); have hz1 := hb'.size; have o3' := cell_below hb' o_3; have hs1 : w.heap.size + 1 < w1.heap.size := Nat.lt_of_lt_of_le (show w.heap.size + 1 < wr.heap.size from hz) hz1; clear hb)
            | (refine step_append_lies _ (by rfl) _ _ _ (by rfl) (w.heap.size + 2) 72 i0 _ 1 8 Try.underlying98 I.out I0.out I1.out I2.out rfl (by omega) _ j vs (by rfl) (own_below hown0.out (by go_grown)) ⟨w1.heap.size, 0, none⟩ 1 1 [.pointer (some ⟨pb, 0, none⟩)] (by rfl) (by rfl) (World.news_of_block (cs := #[.pointer (some ⟨pb, 0, none⟩)]) (t := 72) (fr := (0, 0)) (heap_alloc_new' _ _ _ (by simp))) (by intro u hu; simp at hu; subst hu; rfl) (by omega) (by unfold maxLen; omega) (by omega) (by simp; omega) (w1.heap.size + 1) (by simp) ?_; intro g cap w2 hown hgrow hat hlt2; have hk3 := kept_of hgrow (w := wr) (by go_grown); have hblk : w2.heap[w.heap.size + 1]? = wr.heap[w.heap.size + 1]? := hk3 _ (by omega) (fun e => by have := (hne.out _ e.symm).1; omega); have c2 : w2.cell? ⟨w.heap.size + 1, 3, none⟩ = some (.slice ma j mcap) := (World.cell?_of_block (w := wr) (a := ⟨w.heap.size + 1, 3, none⟩) hblk).trans o_3; have f2 : w2.frozen? ⟨w.heap.size + 1, 3, none⟩ = false := (World.frozen?_of_block (w := wr) (a := ⟨w.heap.size + 1, 3, none⟩) hblk).trans hfz))
        all_goals
          have hB2 : Below w.heap.size w w2 := hw.trans ((below_grown2 (wr := wr) (base := w.heap.size + 2) hgrow (by go_grown) (Below.refl _ wr) hz hown0.out).mono (by omega))
          have hO2 := (O.of_block hblk).set3 (.slice (some ⟨g, 0, none⟩) (j + 1) cap)
          have hK2 := (KidsOwn.grow hK.out hz hb' (show Below w1.heap.size w1 (w1.alloc (.cells #[.pointer (some ⟨pb, 0, none⟩)] 72)) by go_grown) hR hgrow hown (by rw [hlen.out]) (by simpa using hat)).set (b := w.heap.size + 1) (o := 3) (by omega) (.slice (some ⟨g, 0, none⟩) (j + 1) cap)
          rw [← hst.out] at hK2
          have hz2 := hgrow.size
          simp only [World.size_alloc] at hz2
          replace hK2 := Lib.hid hK2
          clear hR hgrow hown hat hk3 hblk hK hc hne hlen hst hown0 hb' o3'
          go_wp2_with fail
          go_roundw
          case rel => exact ⟨j + 1, _, .slice (some ⟨g, 0, none⟩) (j + 1) cap, by omega, by go_num, hB2.setCell (p := ⟨w.heap.size + 1, 3, none⟩) (by simp) _, hO2, by rw [frozen_setCell]; exact f2, hK2.out, by simp; omega⟩
          case measure => simp [intOf]; omega
      · obtain rfl : j = m := by omega
        have hlen : ks.take j = ks := List.take_of_length_le (by have := hm.out; omega)
        rw [hlen] at hK O
        replace hlen := Lib.hid hlen
        have hfin : PxR (f + 1) (fun b => w.heap.size ≤ b) wr (.pointer (some ⟨w.heap.size + 1, 0, none⟩)) (treeOf l (f + 1) i) := by
          rw [hT.out]
          exact KidsOwn.tree (lo := w.heap.size) (b := w.heap.size + 1) (base := w.heap.size + 2) (t := .mk kd nn s (ks.map fun k => treeOf l f k.toNat)) hK.out (by omega) (by omega) hwf O
        replace hfin := Lib.hid hfin
        clear hK O
        go_wp2_with fail
        go_returns
        exact ⟨w.heap.size + 1, rfl, hfin.out, hw⟩

end Go.Proofs.Ytklfepnokidnaaa
