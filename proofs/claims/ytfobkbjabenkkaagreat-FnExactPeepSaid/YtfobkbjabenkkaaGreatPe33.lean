/- Parts of the proof, merged: Reach3. -/
import Derived.Test.YtfobkbjabenkkaaGreatPe32
/- Reached: the program's, ahead of slices.Sort (NOT BUILT YET). -/
namespace Go.Proofs.YtfobkbjabenkkaaGreat
open Go.RowKit
set_option linter.unusedVariables false
set_option linter.unusedSimpArgs false
attribute [local go_sem] Ext.cell

theorem info_boolS : (Tryz.prog.info? 4).map (fun i => (i.zero, i.size, i.bytes)) = some (some (.bool false), 1, 1) := by kernel_rfl
theorem OwnF.set1 {α : Type} {R : Reading α} {f : α → List Value} {wf : α → Prop} (F : Flat R 1 f wf) {e : TypeId} {lo : Nat} {w : World} {g n cap k : Nat} {xs : List α} {y : α} {u : Value} (h : OwnF e 1 f wf lo w (.slice (some ⟨g, 0, none⟩) n cap) xs) (hk : k < xs.length) (hf : f y = [u]) (hwf : wf y) :
    OwnF e 1 f wf lo (w.setCell ⟨g, k, none⟩ u) (.slice (some ⟨g, 0, none⟩) n cap) (xs.set k y) := by
  refine ⟨?_, fun z hz => ?_⟩
  · have hn : n = xs.length := by obtain ⟨a, c, he⟩ := h.form; injection he
    have h1 := own_store (v := .slice none 0 0) F (k := k) (y := y) (by have := h.1; rw [← hn] at this; exact this) hk
    rw [List.length_set, ← hn]
    rw [hf, Nat.mul_one] at h1
    exact h1
  · rcases List.mem_or_eq_of_mem_set hz with h1 | rfl
    · exact h.2 z h1
    · exact hwf
theorem OwnF.at1 {α : Type} {R : Reading α} {f : α → List Value} {wf : α → Prop} (F : Flat R 1 f wf) {e : TypeId} {lo : Nat} {w : World} {g n cap k : Nat} {xs : List α} {x : α} {u : Value} (h : OwnF e 1 f wf lo w (.slice (some ⟨g, 0, none⟩) n cap) xs) (hx : xs[k]? = some x) (hf : f x = [u]) :
    w.cell? ⟨g, k, none⟩ = some u ∧ w.frozen? ⟨g, k, none⟩ = false := by
  have hk := (List.getElem?_eq_some_iff.1 hx).1
  obtain ⟨g', cap', hv, h1, h2, h3, h4, h5, h6⟩ := own_cells h.1 (by omega)
  obtain rfl : g = g' := by injection hv with e1 e2 e3; injection e1 with e1; injection e1
  have h7 := h5 _ _ (F.get (j := 0) hx (by rw [hf]; rfl))
  obtain ⟨c', h8, h9⟩ := h6 k (by omega)
  simp only [Nat.mul_one, Nat.zero_add, Nat.add_zero] at h7 h9
  exact ⟨h7, h9⟩

theorem nxP_stay {is : List GIns} {i : Nat} (h : goesOn (insAt is (i : Int)).op = false) (hin : ∀ t ∈ tgtP (insAt is (i : Int)), ∃ j : Nat, t = (j : Int) ∧ j < is.length) : (nxP is i).map (fun (j : Nat) => (j : Int)) = tgtP (insAt is (i : Int)) ∧ okP is i = true := by
  unfold nxP okP
  rw [h]
  refine ⟨?_, rfl⟩
  simp only [Bool.false_eq_true, if_false, List.append_nil, List.map_map]
  conv => rhs; rw [← List.map_id (tgtP _)]
  refine List.map_congr_left fun t ht => ?_
  obtain ⟨j, rfl, _⟩ := hin t ht
  simp
theorem nxP_go {is : List GIns} {i : Nat} (h : goesOn (insAt is (i : Int)).op = true) (hin : ∀ t ∈ tgtP (insAt is (i : Int)), ∃ j : Nat, t = (j : Int) ∧ j < is.length) : (nxP is i).map (fun (j : Nat) => (j : Int)) = tgtP (insAt is (i : Int)) ++ [(i : Int) + 1] ∧ okP is i = decide (i + 1 < is.length) := by
  unfold nxP okP
  rw [h]
  refine ⟨?_, rfl⟩
  rw [if_pos rfl, List.map_append, List.map_map]
  congr 1
  conv => rhs; rw [← List.map_id (tgtP _)]
  refine List.map_congr_left fun t ht => ?_
  obtain ⟨j, rfl, _⟩ := hin t ht
  simp

/-- Three slices that the call owns: flags, a stack of places, the places met. -/
structure R3 (lo : Nat) (w : World) (gm n cm gt nt ct go no co : Nat) (fs : List Bool) (t o : List Int) : Prop where
  fl : OwnF 4 1 boolRow (fun _ => True) lo w (.slice (some ⟨gm, 0, none⟩) n cm) fs
  td : OwnF 3 1 intRow I64 lo w (.slice (some ⟨gt, 0, none⟩) nt ct) t
  ou : OwnF 3 1 intRow I64 lo w (.slice (some ⟨go, 0, none⟩) no co) o
  lf : fs.length = n
  lt : t.length = nt
  ln : o.length = no
  ne : gm ≠ gt ∧ gm ≠ go ∧ gt ≠ go
section
variable {lo : Nat} {w w' w1 : World} {gm n cm gt nt ct go no co : Nat} {fs : List Bool} {t o : List Int}
theorem R3.bl (R : R3 lo w gm n cm gt nt ct go no co fs t o) : (lo ≤ gm ∧ gm < w.heap.size) ∧ (lo ≤ gt ∧ gt < w.heap.size) ∧ (lo ≤ go ∧ go < w.heap.size) := ⟨R.fl.base gm rfl, R.td.base gt rfl, R.ou.base go rfl⟩
theorem R3.below (R : R3 lo w gm n cm gt nt ct go no co fs t o) (hb : Below w.heap.size w w') : R3 lo w' gm n cm gt nt ct go no co fs t o := ⟨R.fl.below hb, R.td.below hb, R.ou.below hb, R.lf, R.lt, R.ln, R.ne⟩
theorem R3.pop {x : Int} (R : R3 lo w gm n cm gt nt ct go no co fs (t ++ [x]) o) : R3 lo w gm n cm gt (nt - 1) ct go no co fs t o := by
  have h1 := R.lt
  rw [List.length_append, List.length_singleton] at h1
  have h2 := R.td.take flatInt (m := nt - 1) R.lt.symm (by omega)
  rw [List.take_append_of_le_length (by omega), List.take_of_length_le (by omega)] at h2
  exact ⟨R.fl, h2, R.ou, R.lf, by omega, R.ln, R.ne⟩
theorem R3.top {x : Int} (R : R3 lo w gm n cm gt nt ct go no co fs (t ++ [x]) o) : w.cell? ⟨gt, nt - 1, none⟩ = some (.int .i64 x) := by
  have h1 := R.lt
  rw [List.length_append, List.length_singleton] at h1
  have h2 := R.td.at1 flatInt (k := nt - 1) (x := x) (by rw [List.getElem?_append_right (by omega), show nt - 1 - t.length = 0 by omega]; rfl) rfl
  exact h2.1
theorem R3.flag {k : Nat} (R : R3 lo w gm n cm gt nt ct go no co fs t o) (hk : k < n) (b : Bool) : R3 lo (w.setCell ⟨gm, k, none⟩ (.bool b)) gm n cm gt nt ct go no co (fs.set k b) t o := by
  have K : Kept (· = gm) w (w.setCell ⟨gm, k, none⟩ (.bool b)) := Kept.set (S := (· = gm)) (p := ⟨gm, k, none⟩) (Kept.refl _ _) rfl _
  refine ⟨R.fl.set1 flatBool (by rw [R.lf]; exact hk) rfl trivial, R.td.kept K fun g hg e => ?_, R.ou.kept K fun g hg e => ?_, by rw [List.length_set]; exact R.lf, R.lt, R.ln, R.ne⟩
  · injection hg with hg; exact R.ne.1 (by rw [← e, ← hg])
  · injection hg with hg; exact R.ne.2.1 (by rw [← e, ← hg])
theorem R3.td_new {g m c : Nat} {t' : List Int} (R : R3 lo w gm n cm gt nt ct go no co fs t o) (hb : Below w.heap.size w w1) (hg : w1.grownBy w' (some gt)) (hat : g = gt ∨ w.heap.size ≤ g) (h : OwnF 3 1 intRow I64 lo w' (.slice (some ⟨g, 0, none⟩) m c) t') (hl : t'.length = m) : R3 lo w' gm n cm g m c go no co fs t' o := by
  have K := kept_of hg hb
  obtain ⟨⟨a1, a2⟩, ⟨b1, b2⟩, c1, c2⟩ := R.bl
  obtain ⟨n1, n2, n3⟩ := R.ne
  refine ⟨R.fl.kept K fun q hq e => ?_, h, R.ou.kept K fun q hq e => ?_, R.lf, hl, R.ln, ?_⟩
  · injection hq with hq; injection e with e; exact n1 (by rw [← e, ← hq])
  · injection hq with hq; injection e with e; exact n3 (by rw [← e, ← hq])
  · rcases hat with rfl | hat
    · exact ⟨n1, n2, n3⟩
    · exact ⟨by omega, n2, by omega⟩
theorem R3.ou_new {g m c : Nat} {o' : List Int} (R : R3 lo w gm n cm gt nt ct go no co fs t o) (hb : Below w.heap.size w w1) (hg : w1.grownBy w' (some go)) (hat : g = go ∨ w.heap.size ≤ g) (h : OwnF 3 1 intRow I64 lo w' (.slice (some ⟨g, 0, none⟩) m c) o') (hl : o'.length = m) : R3 lo w' gm n cm gt nt ct g m c fs t o' := by
  have K := kept_of hg hb
  obtain ⟨⟨a1, a2⟩, ⟨b1, b2⟩, c1, c2⟩ := R.bl
  obtain ⟨n1, n2, n3⟩ := R.ne
  refine ⟨R.fl.kept K fun q hq e => ?_, R.td.kept K fun q hq e => ?_, h, R.lf, R.lt, hl, ?_⟩
  · injection hq with hq; injection e with e; exact n2 (by rw [← e, ← hq])
  · injection hq with hq; injection e with e; exact n3 (by rw [← e, ← hq])
  · rcases hat with rfl | hat
    · exact ⟨n1, n2, n3⟩
    · exact ⟨n1, by omega, by omega⟩
theorem ints_snoc {u : Value} {o : List Int} {x : Int} {m : Nat} (hl : o.length = m) (h : w.ownsRow lo 3 1 u (m + 1) (rowsOf intRow o ++ [.int .i64 x])) (ho : ∀ y ∈ o, I64 y) (hx : I64 x) : OwnF 3 1 intRow I64 lo w u (o ++ [x]) := by
  refine ⟨?_, fun y hy => ?_⟩
  · rw [List.length_append, List.length_singleton, hl, rowsOf_append, rowsOf_one]; exact h
  · rcases List.mem_append.1 hy with h1 | h1
    · exact ho y h1
    · simp only [List.mem_singleton] at h1; rw [h1]; exact hx
theorem ints_app {u : Value} {o ys : List Int} {m : Nat} (hl : o.length = m) (h : w.ownsRow lo 3 1 u (m + ys.length) (rowsOf intRow o ++ rowsOf intRow ys)) (ho : ∀ y ∈ o, I64 y) (hx : ∀ y ∈ ys, I64 y) : OwnF 3 1 intRow I64 lo w u (o ++ ys) := by
  refine ⟨?_, fun y hy => ?_⟩
  · rw [List.length_append, hl, rowsOf_append]; exact h
  · rcases List.mem_append.1 hy with h1 | h1
    · exact ho y h1
    · exact hx y h1
end

set_option maxRecDepth 100000 in
set_option maxHeartbeats 16000000 in
theorem Reached_c (c : GCode) (hS : CodeCopy c) (r : List Value) (lo : Nat) (w : World) (hr : GCode.R lo w r c) :
    Calls Tryz.prog 50 #[.agg r.toArray] w fun e w' => ∃ v, e = .returned v ∧ Sl IntR 1 w.heap.size w' v (reachedP c) ∧ Below w.heap.size w w' := by
  have cK := fun W (hW : Below w.heap.size w W) => CodeOk_c c hS.small r lo W (GCode.good.below hr hW)
  obtain ⟨u0, u1, rfl, _, h0, h1⟩ := hr
  obtain ⟨ia, ic, rfl, il, im, h0⟩ := h0
  obtain ⟨pa, pc, rfl⟩ := h1.form
  cases hq : codeOk c
  · rw [hq] at cK
    have hres : reachedP c = [] := by unfold reachedP; rw [if_neg (by rw [hq]; simp)]
    rw [hres]
    clear hq h0 h1 il im hS hres
    replace cK := Lib.hid cK
    generalize c.ins.length = n at *
    generalize c.pats.length = m at *
    go_enter Tryz.func50, Tryz.ntmps50
    go_upto_region 1 with fail
    have C : RowAt (w.alloc (.cells #[.slice ia n ic, .slice pa m pc] 30)) (w.heap.size) 0 [.slice ia n ic, .slice pa m pc] := RowAt.box w #[.slice ia n ic, .slice pa m pc] 30
    have hw : Below w.heap.size w (w.alloc (.cells #[.slice ia n ic, .slice pa m pc] 30)) := by go_grown
    generalize (w.alloc (.cells #[.slice ia n ic, .slice pa m pc] 30)) = w0 at *
    obtain ⟨c_0, c_1⟩ := C.box2; have hsC := World.block_lt_of_cell? _ _ c_0; dsimp only at hsC
    go_wp2_with (go_at_call 20; ((with_reducible refine (cK.out _ hw).mono ?_); rintro e w1 ⟨rfl, hb⟩; have hw := hw.trans (hb.mono hw.size); have C := C.below hb; obtain ⟨c_0, c_1⟩ := C.box2; have hsC := World.block_lt_of_cell? _ _ c_0; dsimp only at hsC; clear hb))
    go_returns
    exact ⟨_, rfl, Sl.nil, hw⟩
  · rw [hq] at cK
    obtain ⟨n1, n2, _, _⟩ := codeOk_all hq
    have hL := codeOk_leads hq
    have hA := codeOk_arms hq
    obtain ⟨n, hn⟩ : ∃ n, n = c.ins.length := ⟨_, rfl⟩
    obtain ⟨m, hm⟩ : ∃ m, m = c.pats.length := ⟨_, rfl⟩
    have hbad : ∀ i, Rc (nxP c.ins) i → okP c.ins i = false → reachedP c = [] := fun i h1 h2 => by
      unfold reachedP
      rw [if_neg fun h => by have := h.2 i h1; rw [h2] at this; cases this]
    have hgood : (∀ i, Rc (nxP c.ins) i → okP c.ins i = true) → reachedP c = rcList (nxP c.ins) c.ins.length := fun h => by
      unfold reachedP
      rw [if_pos ⟨hq, h⟩]
    obtain ⟨is, qs⟩ := c
    dsimp only at *
    have hin := fun i (hi : i < is.length) => tgt_in hL hA hi
    have hnx := fun i (hi : i < is.length) (ho : okP is i = true) => nx_in hL hA hi ho
    generalize reachedP ⟨is, qs⟩ = Rr at *
    rw [← hn] at il n1 n2 hgood
    rw [← hn, ← hm] at cK ⊢
    clear h1 hS hq
    replace hn := Lib.hid hn; replace hm := Lib.hid hm; replace h0 := Lib.hid h0; replace cK := Lib.hid cK; replace hbad := Lib.hid hbad; replace hgood := Lib.hid hgood; replace hin := Lib.hid hin; replace hnx := Lib.hid hnx; replace hL := Lib.hid hL; replace hA := Lib.hid hA
    obtain ⟨iJ, hi0, hz0, hz1, hz2⟩ := info_parts info_IntS; have IJ := Lib.hid hi0; have IJ0 := Lib.hid hz0; have IJ1 := Lib.hid hz1; have IJ2 := Lib.hid hz2; clear hi0 hz0 hz1 hz2
    obtain ⟨iB, hi0, hz0, hz1, hz2⟩ := info_parts info_boolS; have IB := Lib.hid hi0; have IB0 := Lib.hid hz0; have IB1 := Lib.hid hz1; have IB2 := Lib.hid hz2; clear hi0 hz0 hz1 hz2
    go_enter Tryz.func50, Tryz.ntmps50
    go_upto_region 1 with fail
    have C : RowAt (w.alloc (.cells #[.slice ia n ic, .slice pa m pc] 30)) (w.heap.size) 0 [.slice ia n ic, .slice pa m pc] := RowAt.box w #[.slice ia n ic, .slice pa m pc] 30
    have hw : Below w.heap.size w (w.alloc (.cells #[.slice ia n ic, .slice pa m pc] 30)) := by go_grown
    generalize (w.alloc (.cells #[.slice ia n ic, .slice pa m pc] 30)) = w0 at *
    obtain ⟨c_0, c_1⟩ := C.box2; have hsC := World.block_lt_of_cell? _ _ c_0; dsimp only at hsC
    go_upto_region 3 with (go_at_call 20; ((with_reducible refine (cK.out _ hw).mono ?_); rintro e w1 ⟨rfl, hb⟩; have hw := hw.trans (hb.mono hw.size); have C := C.below hb; obtain ⟨c_0, c_1⟩ := C.box2; have hsC := World.block_lt_of_cell? _ _ c_0; dsimp only at hsC; clear hb))
    have hz1 := hw.size
    go_upto_region 4 with (at_make; refine wpList_make_full _ rfl _ _ _ rfl w1.heap.size 4 iB _ 1 Tryz.underlying86 IB.out IB0.out IB1.out _ _ _ _ n rfl rfl rfl rfl (by rw [IB2.out]; omega) (by unfold maxLen; omega) (by simp) ?_; intro w2 hOm hgw)
    rw [show (Value.bool false).cells = #[.bool false] from rfl, made_false] at hOm
    have hz2 : w1.heap.size < w2.heap.size := (own_base hOm _ rfl).2
    have hb2 : Below w1.heap.size w1 w2 := below_grown (Below.refl _ _) (Nat.le_refl _) (own_none (e := 4) (size := 1)) hgw
    have C2 := C.below hb2
    have hw2 := hw.trans (hb2.mono hw.size)
    have hFl : OwnF 4 1 boolRow (fun _ => True) w1.heap.size w2 (.slice (some ⟨w1.heap.size, 0, none⟩) n n) (List.replicate n false) := ⟨by rw [List.length_replicate]; exact hOm, fun _ _ => trivial⟩
    clear hOm hgw
    go_upto_region 6 with fail
    obtain ⟨w3, hW3⟩ : ∃ W, W = (w2.alloc (.cells #[.int .i64 0] 3)).alloc (.cells #[] 3) := ⟨_, rfl⟩
    rw [← hW3]
    have hb3 : Below w2.heap.size w2 w3 := by rw [hW3]; go_grown
    have hz3 : w3.heap.size = w2.heap.size + 1 + 1 := by rw [hW3]; simp
    have C3 := C2.below hb3
    have hw3 := hw2.trans (hb3.mono hw2.size)
    have O1 : OwnF 3 1 intRow I64 w1.heap.size w3 (.slice (some ⟨w2.heap.size, 0, none⟩) 1 1) [0] := by
      have h := own_new w2 #[.int .i64 0] 3 1 1 rfl (by decide) w1.heap.size (by omega)
      rw [hW3]
      exact ⟨own_below h (by go_grown), fun x hx => by simp at hx; subst hx; constructor <;> decide⟩
    have O2 : OwnF 3 1 intRow I64 w1.heap.size w3 (.slice (some ⟨w2.heap.size + 1, 0, none⟩) 0 0) ([] : List Int) := ⟨own_empty_at (by rw [hW3]; exact heap_alloc_new' _ _ _ (by simp)) (by omega), fun x hx => by cases hx⟩
    obtain ⟨B, hB⟩ : ∃ B, B = w1.heap.size := ⟨_, rfl⟩
    have hR : R3 B w3 B n n w2.heap.size 1 1 (w2.heap.size + 1) 0 0 (List.replicate n false) [0] [] := by
      rw [hB]
      exact ⟨hFl.below hb3, O1, O2, by simp, rfl, rfl, by omega, by omega, by omega⟩
    have hD : Dfs (nxP is) (okP is) n (List.replicate n false) [0] [] := Dfs.start (by omega)
    have hBC : w.heap.size < B := by omega
    rw [← hB]
    clear hW3 hb3 O1 O2 hFl C C2 hw hw2 hb2 hz1 hz2 c_0 c_1 hsC
    replace hR := Lib.hid hR; replace hD := Lib.hid hD; replace hB := Lib.hid hB
    go_loopw [4, 5] (fun v u wr => ∃ (gt nt ct go no co : Nat) (fs : List Bool) (todo out : List Int), v = .slice (some ⟨gt, 0, none⟩) nt ct ∧ u = .slice (some ⟨go, 0, none⟩) no co ∧ nt ≤ no + 1 ∧ Below w.heap.size w wr ∧ RowAt wr w.heap.size 0 [.slice ia n ic, .slice pa m pc] ∧ Hid (R3 B wr B n n gt nt ct go no co fs todo out) ∧ Hid (Dfs (nxP is) (okP is) n fs todo out)) (fun v u _ => slen v + 3 * (n - slen u))
    case atStart => exact ⟨w2.heap.size, 1, 1, w2.heap.size + 1, 0, 0, _, _, _, rfl, rfl, by omega, hw3, C3, hR, hD⟩
    case round =>
      clear hw3 C3 hR hD hz3
      obtain ⟨gt, nt, ct, go, no, co, fs, todo, out, rfl, rfl, hno, hw, C, hR, hD⟩ := hrel
      by_cases hnt : nt = 0
      · obtain rfl : todo = [] := List.length_eq_zero_iff.1 (by rw [hR.out.lt]; exact hnt)
        obtain ⟨hall, hsort⟩ := hD.out.done
        have hno3 : no ≤ n := by have := hD.out.le; rw [hR.out.ln] at this; exact this
        have hres : Rr = rcList (nxP is) n := hgood.out fun i hi => (hall i hi).2
        rw [← hsort] at hres
        have d1 : decide (0 < (nt : Int)) = false := decide_eq_false (by omega)
        have d2 : decide (0 < nt) = false := decide_eq_false (by omega)
        have cS := Sort_c out go co B wr (by rw [hR.out.ln]; omega) (by rw [hR.out.ln]; exact hR.out.ou)
        rw [hR.out.ln] at cS
        replace hres := Lib.hid hres; replace cS := Lib.hid cS
        clear hall hsort hnt
        go_wp2_with (go_at_call 84; (with_reducible refine (cS.out).mono ?_); rintro e w4 ⟨rfl, hOS, hb⟩)
        go_returns
        rw [hres.out]
        exact ⟨_, rfl, (hOS.mono (Nat.le_of_lt hBC)).sl flatInt, hw.trans (hb.mono (Nat.le_of_lt hBC))⟩
      · have hne : todo ≠ [] := fun e => by have := hR.out.lt; rw [e] at this; simp at this; omega
        obtain ⟨t', x, rfl⟩ : ∃ t' x, todo = t' ++ [x] := ⟨_, _, (List.dropLast_concat_getLast hne).symm⟩
        obtain ⟨k, rfl, hk, hrc⟩ := hD.out.tr x (by simp)
        have T1 := hR.out.top
        have hct : nt ≤ ct := by
          obtain ⟨g, c, hv, -, -, h, -⟩ := own_cells hR.out.td.1 (by rw [hR.out.lt]; omega)
          injection hv with _ _ h3; have := hR.out.lt; omega
        have hnon : no ≤ n := by have := hD.out.le; rw [hR.out.ln] at this; exact this
        have hnt3 : nt ≤ 3001 := by omega
        have d1 : decide (0 < (nt : Int)) = true := decide_eq_true (by omega)
        have d2 : 0 ≤ (nt : Int) - 1 := by omega
        have d3 : (nt : Int) - 1 < (nt : Int) := by omega
        have d4 : ((nt : Int) - 1).toNat = nt - 1 := by omega
        have d5 : nt - 1 < nt := by omega
        have d6 : nt - 1 ≤ ct := by omega
        go_upto_region 9 with fail
        have hfl : k < fs.length := by rw [hR.out.lf]; exact hk
        obtain ⟨b, hb⟩ : ∃ b, fs[k]? = some b := ⟨_, List.getElem?_eq_getElem hfl⟩
        obtain ⟨m_0, m_f⟩ := hR.out.fl.at1 flatBool hb rfl
        have hP := hR.out.pop
        have hBn : n ≤ 3000 := n2
        cases b
        · obtain ⟨w4, hW4⟩ : ∃ W, W = wr.setCell ⟨B, k, none⟩ (.bool true) := ⟨_, rfl⟩
          have R4 := hP.flag hk true
          rw [← hW4] at R4
          have hw4 : Below w.heap.size w w4 := by rw [hW4]; exact hw.setCell (p := ⟨B, k, none⟩) (Nat.le_of_lt hBC) _
          have C4 : RowAt w4 w.heap.size 0 [.slice ia n ic, .slice pa m pc] := C.kept (S := (· = B)) (by rw [hW4]; exact Kept.set (S := (· = B)) (p := ⟨B, k, none⟩) (Kept.refl _ _) rfl _) (by omega)
          have hz4 : wr.heap.size = w4.heap.size := by rw [hW4]; simp [World.setCell]
          have hBl := R4.bl
          have hk64 : I64 ((k : Nat) : Int) := by constructor <;> omega
          obtain ⟨b1, o1, x, s1, _, hab, P1, ⟨rfl, hxw⟩, r1⟩ := (h0.out.below GIns.good hw4).get hn hk
          obtain ⟨e_0, e_1, e_2, e_3⟩ := r1.cells4
          have hx : insAt is (k : Int) = x := by unfold insAt; rw [Int.toNat_natCast, P1.out]; rfl
          have hki : k < is.length := by rw [← hn.out]; exact hk
          have hns := @nxP_stay is k
          have hng := @nxP_go is k
          have hinx := hin.out k hki
          rw [hx] at hns hng hinx
          have hnxk := hnx.out k hki
          have hok := fun h => hbad.out k hrc h
          have hDm := fun ho h => Dfs.meet hD.out hk hb ho h
          rw [← hn.out] at hnxk hinx hng hns
          replace hns := fun h => hns h hinx
          replace hng := fun h => hng h hinx
          have hnod := hD.out.le
          rw [hR.out.ln] at hnod
          have hoi := hR.out.ou.2
          clear r1 hD hR hne hb hfl hP hinx e_0 e_1 e_2 e_3
          obtain ⟨op, a, b, s⟩ := x
          dsimp only at *
          subst hab
          replace R4 := Lib.hid R4; replace hns := Lib.hid hns; replace hng := Lib.hid hng; replace hnxk := Lib.hid hnxk; replace hok := Lib.hid hok; replace hDm := Lib.hid hDm; replace hxw := Lib.hid hxw; replace hoi := Lib.hid hoi; replace hk64 := Lib.hid hk64; replace hrc := Lib.hid hrc
          go_upto_region 11 with fail
          rw [← hW4]
          clear hW4 hx
          have hR4l := R4.out.ln
          have hO4 := R4.out.ou.1
          rw [hR4l] at hO4
          have hzB : B ≤ w4.heap.size := by omega
          have hno3 : no ≤ 3000 := by omega
          replace hR4l := Lib.hid hR4l
          go_upto_region 12 with (at_builtin; refine wpList_append_lies _ rfl _ _ _ rfl (B) 3 iJ _ 1 8 Tryz.underlying60 IJ.out IJ0.out IJ1.out IJ2.out rfl (by omega) (.slice (some ⟨go, 0, none⟩) no co) (no) (rowsOf intRow out) rfl (own_below hO4 (by go_grown)) ⟨w4.heap.size, 0, none⟩ 1 1 [.int .i64 (k : Int)] rfl rfl (World.news_of_block (cs := #[.int .i64 (k : Int)]) (t := 3) (fr := (0, 0)) (heap_alloc_new' _ _ _ (by simp))) (by intro u hu; simp at hu; (first | (subst hu; rfl) | (rcases hu with rfl | rfl | rfl | rfl <;> rfl) | (rcases hu with rfl | rfl | rfl | rfl | rfl | rfl | rfl | rfl | rfl <;> rfl))) (by omega) (by unfold maxLen; omega) (by omega) (by simp; omega) _ rfl ?_; intro g2 cap2 w5 hown hgrow hat hlt2)
          have hbl5 := R4.out.bl
          have R5 := R4.out.ou_new (w' := w5) (w1 := w4.alloc (.cells #[.int .i64 (k : Int)] 3)) (by go_grown) hgrow (by
            rcases hat with h | h
            · injection h with h; exact .inl h.symm
            · exact .inr (by rw [h]; simp)) (ints_snoc hR4l.out hown hoi.out hk64.out) (by rw [List.length_append, hR4l.out]; rfl)
          have hw5 : Below w.heap.size w w5 := below_grown2 (wr := w4) (w := w) (base := w.heap.size) hgrow (by go_grown) hw4 hw4.size (own_lo hO4 (Nat.le_of_lt hBC))
          have C5 := C4.kept (kept_of hgrow (w := w4) (by go_grown)) (fun h => by have h : w.heap.size = go := Option.some.inj h; omega)
          obtain ⟨b2, o2, x2, s2, _, hab, P2, ⟨rfl, -⟩, r2⟩ := (h0.out.below GIns.good hw5).get hn hk
          obtain ⟨rfl, rfl⟩ : b1 = b2 ∧ o1 = o2 := by injection hab with h; injection h with h1 h2; exact ⟨h1, h2⟩
          obtain rfl : x2 = ⟨op, a, b, s⟩ := by have h1 := P1.out; rw [P2.out] at h1; exact Option.some.inj h1
          obtain ⟨e_0, e_1, e_2, e_3⟩ := r2.cells4
          dsimp only at e_0 e_1 e_2 e_3
          have hlo5 : n ≤ is.length := Nat.le_of_eq hn.out
          clear r2 hgrow hown hat hlt2 hO4 R4 P2 hab P1 C C4
          replace R5 := Lib.hid R5
          obtain ⟨c5_0, c5_1⟩ := C5.box2; have hsC5 := World.block_lt_of_cell? _ _ c5_0; dsimp only at hsC5
          go_upto_region 13 with fail
          obtain ⟨w6, hW6⟩ : ∃ W, W = w5.alloc (.cells #[.int .i64 op, .int .i64 a, .int .i64 b, .string s] 57) := ⟨_, rfl⟩
          rw [← hW6]
          have hb6 : Below w5.heap.size w5 w6 := by rw [hW6]; go_grown
          have Q : RowAt w6 w5.heap.size 0 [.int .i64 op, .int .i64 a, .int .i64 b, .string s] := by rw [hW6]; exact RowAt.box w5 #[_, _, _, _] _
          have hs6 : w5.heap.size < w6.heap.size := by rw [hW6]; simp
          have R6 := R5.out.below hb6
          have C6 := C5.below hb6
          have hw6 := hw5.trans (hb6.mono hw5.size)
          have cT := Targets_c ⟨op, a, b, s⟩ _ lo w6 ⟨rfl, hxw.out⟩
          obtain ⟨bI, hbI⟩ : ∃ x, x = w5.heap.size := ⟨_, rfl⟩
          have hbl6 := R5.out.bl
          rw [← hbI] at Q hs6 hbl6 ⊢
          have hz5 := hw5.size
          clear hW6 hb6 R5 C5 hw5 hw4 e_0 e_1 e_2 e_3 c5_0 c5_1 hsC5
          replace R6 := Lib.hid R6; replace cT := Lib.hid cT; replace hbI := Lib.hid hbI
          obtain ⟨q_0, q_1, q_2, q_3⟩ := Q.box4; have hsQ := World.block_lt_of_cell? _ _ q_0; dsimp only at hsQ
          go_upto_region 14 with (first | (go_at_call 82; (with_reducible refine (cT.out).mono ?_); rintro e w7 ⟨tv, rfl, hTv, hb⟩; have R7 := Lib.hid (R6.out.below hb); have C7 := C6.below hb; have Q7 := Q.below hb; have hw7 := hw6.trans (hb.mono hw6.size); have hz7 := hb.size; clear hb) | (at_builtin; refine wpList_append_sl _ flatInt rfl _ _ _ rfl B 3 iJ _ 8 Tryz.underlying60 IJ.out IJ0.out IJ1.out IJ2.out rfl gt ct (nt - 1) (rowsOf intRow t') rfl (R7.out.lt ▸ R7.out.td.1) _ _ (tgtP ⟨op, a, b, s⟩) rfl hTv (by have := tgt_len ⟨op, a, b, s⟩; unfold maxLen; omega) (by have := tgt_len ⟨op, a, b, s⟩; omega) (by omega) ?_; intro g cap w8 hown hgrow hat))
          have hO7 := R7.out.td.1
          rw [R7.out.lt] at hO7
          have R8 := R7.out.td_new (w' := w8) (w1 := w7) (Below.refl _ _) hgrow (hat.imp id fun h => by omega) (ints_app R7.out.lt hown R7.out.td.2 (flatInt.wfs hTv)) (by rw [List.length_append, R7.out.lt])
          have hzB7 : w.heap.size ≤ w7.heap.size := hw7.size
          have hw8 : Below w.heap.size w w8 := below_grown hw7 hzB7 (own_lo hO7 (Nat.le_of_lt hBC)) hgrow
          have K8 := kept_of hgrow (Below.refl w7.heap.size w7)
          have C8 := C7.kept K8 (fun h => by have h : w.heap.size = gt := Option.some.inj h; omega)
          have Q8 := Q7.kept K8 (fun h => by have h : bI = gt := Option.some.inj h; omega)
          have hl8 := hns.out
          have hl9 := hng.out
          have htl := tgt_len ⟨op, a, b, s⟩
          have hbl8 := R8.bl
          generalize tgtP ⟨op, a, b, s⟩ = ts at *
          obtain ⟨nt2, hnt2⟩ : ∃ x, x = nt - 1 + ts.length := ⟨_, rfl⟩
          rw [← hnt2] at R8 ⊢
          have cG := GoesOn_c ⟨op, a, b, s⟩ _ lo w8 ⟨rfl, hxw.out⟩
          dsimp only at cG
          have hz8 := hw8.size
          clear hO7 hown hgrow hat R7 K8 C7 Q7 hTv hns hng cT R6 C6 Q q_0 q_1 q_2 q_3 hsQ hw6 hw7 hs6
          replace R8 := Lib.hid R8; replace hnt2 := Lib.hid hnt2; replace htl := Lib.hid htl
          obtain ⟨c8_0, c8_1⟩ := C8.box2; have hsC8 := World.block_lt_of_cell? _ _ c8_0; dsimp only at hsC8; obtain ⟨q8_0, q8_1, q8_2, q8_3⟩ := Q8.box4; have hsQ8 := World.block_lt_of_cell? _ _ q8_0; dsimp only at hsQ8
          cases hg : goesOn op
          · obtain ⟨hl1, hl2⟩ := hl8 hg
            rw [hg] at cG
            have hDn := hDm.out hl2 (hnxk.out hl2)
            rw [hl1] at hDn
            have hno1 : no + 1 ≤ n := by have := hDn.le; rw [R8.out.ln] at this; exact this
            replace hDn := Lib.hid hDn; replace cG := Lib.hid cG; replace hg := Lib.hid hg
            clear hl8 hl9 hl1 hl2
            go_wp2_with (go_at_call 83; (with_reducible refine (cG.out).mono ?_); rintro e w9 ⟨rfl, hb⟩; have R9 := Lib.hid (R8.out.below hb); have C9 := C8.below hb; have hw9 := hw8.trans (hb.mono hw8.size); clear hb)
            go_roundw
            case rel => exact ⟨g, nt2, cap, g2, no + 1, cap2, _, _, _, rfl, rfl, by have := hnt2.out; have := htl.out; omega, hw9, C9, R9, hDn⟩
            case measure => simp [slen]; have := hnt2.out; have := htl.out; omega
          · obtain ⟨hl1, hl2⟩ := hl9 hg
            rw [hg] at cG
            by_cases hkn : k + 1 = n
            · have hres := hok.out (by rw [hl2]; exact decide_eq_false (by omega))
              have d7 : decide ((n : Int) ≤ (k : Int) + 1) = true := decide_eq_true (by omega)
              have d8 : decide (n ≤ k + 1) = true := decide_eq_true (by omega)
              replace hres := Lib.hid hres; replace cG := Lib.hid cG; replace hg := Lib.hid hg; replace hkn := Lib.hid hkn
              clear hl8 hl9 hl1 hl2
              go_wp2_with (go_at_call 83; (with_reducible refine (cG.out).mono ?_); rintro e w9 ⟨rfl, hb⟩; have C9 := C8.below hb; have hw9 := hw8.trans (hb.mono hw8.size); clear hb; obtain ⟨c9_0, c9_1⟩ := C9.box2; have hsC9 := World.block_lt_of_cell? _ _ c9_0; dsimp only at hsC9)
              go_returns
              rw [hres.out]
              exact ⟨_, rfl, Sl.nil, hw9⟩
            · have hDn := hDm.out (by rw [hl2]; exact decide_eq_true (by omega)) (hnxk.out (by rw [hl2]; exact decide_eq_true (by omega)))
              rw [hl1, ← List.append_assoc] at hDn
              have d7 : decide ((n : Int) ≤ (k : Int) + 1) = false := decide_eq_false (by omega)
              have d8 : decide (n ≤ k + 1) = false := decide_eq_false (by omega)
              replace hDn := Lib.hid hDn; replace cG := Lib.hid cG; replace hg := Lib.hid hg; replace hkn := Lib.hid hkn
              clear hl8 hl9 hl1 hl2
              go_upto_region 17 with (go_at_call 83; (with_reducible refine (cG.out).mono ?_); rintro e w9 ⟨rfl, hb⟩; have R9 := Lib.hid (R8.out.below hb); have C9 := C8.below hb; have hw9 := hw8.trans (hb.mono hw8.size); clear hb; obtain ⟨c9_0, c9_1⟩ := C9.box2; have hsC9 := World.block_lt_of_cell? _ _ c9_0; dsimp only at hsC9)
              have hl9 := R9.out.lt
              have hO9 := R9.out.td.1
              rw [hl9] at hO9
              have hz9 := hw9.size
              have hzB9 : B ≤ w9.heap.size := Nat.le_of_lt R9.out.bl.1.2
              have hnt9 : nt2 ≤ 3002 := by have := hnt2.out; have := htl.out; omega
              have hk65 : I64 ((k : Int) + 1) := by constructor <;> omega
              have hno1 : no + 1 ≤ n := by have := hDn.out.le; rw [R9.out.ln] at this; exact this
              replace hl9 := Lib.hid hl9; replace hk65 := Lib.hid hk65; replace hno1 := Lib.hid hno1
              go_wp2_with (at_builtin; refine wpList_append_lies _ rfl _ _ _ rfl (B) 3 iJ _ 1 8 Tryz.underlying60 IJ.out IJ0.out IJ1.out IJ2.out rfl (by omega) (.slice (some ⟨g, 0, none⟩) nt2 cap) (nt2) (rowsOf intRow (t' ++ ts)) rfl (own_below hO9 (by go_grown)) ⟨w9.heap.size, 0, none⟩ 1 1 [.int .i64 ((k : Int) + 1)] rfl rfl (World.news_of_block (cs := #[.int .i64 ((k : Int) + 1)]) (t := 3) (fr := (0, 0)) (heap_alloc_new' _ _ _ (by simp))) (by intro u hu; simp at hu; (first | (subst hu; rfl) | (rcases hu with rfl | rfl | rfl | rfl <;> rfl) | (rcases hu with rfl | rfl | rfl | rfl | rfl | rfl | rfl | rfl | rfl <;> rfl))) (by omega) (by unfold maxLen; omega) (by omega) (by simp; omega) _ rfl ?_; intro g3 cap3 w10 hown hgrow hat hlt2)
              have R10 := R9.out.td_new (w' := w10) (w1 := w9.alloc (.cells #[.int .i64 ((k : Int) + 1)] 3)) (by go_grown) hgrow (by
                rcases hat with h | h
                · injection h with h; exact .inl h.symm
                · exact .inr (by rw [h]; simp)) (ints_snoc hl9.out hown R9.out.td.2 hk65.out) (by rw [List.length_append, hl9.out]; rfl)
              have hw10 : Below w.heap.size w w10 := below_grown2 (wr := w9) (w := w) (base := w.heap.size) hgrow (by go_grown) hw9 hw9.size (own_lo hO9 (Nat.le_of_lt hBC))
              have C10 := C9.kept (kept_of hgrow (w := w9) (by go_grown)) (fun h => by have h : w.heap.size = g := Option.some.inj h; omega)
              replace R10 := Lib.hid R10
              go_roundw
              case rel => exact ⟨g3, nt2 + 1, cap3, g2, no + 1, cap2, _, _, _, rfl, rfl, by have := hnt2.out; have := htl.out; omega, hw10, C10, R10, hDn⟩
              case measure => simp [slen]; have := hnt2.out; have := htl.out; have := hno1.out; omega
        · have hD2 := hD.out.skip hb
          replace hP := Lib.hid hP; replace hD2 := Lib.hid hD2
          clear hR hD hne hb hrc hBn hfl
          go_wp2_with fail
          go_roundw
          case rel => exact ⟨gt, nt - 1, ct, go, no, co, fs, t', out, rfl, rfl, by omega, hw, C, hP, hD2⟩
          case measure => simp [slen]; omega

end Go.Proofs.YtfobkbjabenkkaaGreat
