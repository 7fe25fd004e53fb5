/- PoolSweep: the reference's walk; both, joined. -/
import Derived.Test.YtajbgkpjmgmdhaaSweep3
namespace Go.Proofs.Ytajbgkpjmgmdhaa
open Go.RowKit
set_option linter.unusedVariables false
set_option linter.unusedSimpArgs false
attribute [local go_sem] Ext.cell

theorem bloop_all {h : List GCell} {roots : List GVal} (H : HeapIn h roots) : BLoop h roots (copiedP h roots).1.length (copiedP h roots) := by
  have hR : ∀ k, k ≤ roots.length → ∃ s, RLoop h roots k s := by
    intro k
    induction k with
    | zero => exact fun _ => ⟨_, RLoop.zero h roots⟩
    | succ k ih =>
      intro hk
      obtain ⟨s, L⟩ := ih (by omega)
      exact ⟨_, L.step H (List.getElem?_eq_getElem (show k < roots.length by omega))⟩
  obtain ⟨s, L⟩ := hR _ (Nat.le_refl _)
  have B := L.done rfl
  have hB : ∀ d k s, h.length - k ≤ d → BLoop h roots k s → ∃ s', BLoop h roots s'.1.length s' := by
    intro d
    induction d with
    | zero =>
      intro k s hd B
      have := B.le; have := B.inv.le
      obtain rfl : k = s.1.length := by omega
      exact ⟨s, B⟩
    | succ d ih =>
      intro k s hd B
      have h1 := B.le; have h2 := B.inv.le
      by_cases hk : k < s.1.length
      · obtain ⟨j, c, e1, e2, e3, e4⟩ := B.get hk
        exact ih (k + 1) _ (by omega) (B.step H e1 e3 e4)
      · obtain rfl : k = s.1.length := by omega
        exact ⟨s, B⟩
  obtain ⟨s', B'⟩ := hB _ 0 s (Nat.le_refl _) B
  have e := B'.done rfl
  rw [← e]; exact B'

theorem Bools.kept {S : Nat → Prop} {w w' : World} {g : Nat} {m : List Bool} (h : Bools w g m) (hk : Kept S w w') (hS : ¬ S g) : Bools w' g m := fun j x hj => by
  have h1 := h j x hj
  have hl := World.block_lt_of_cell? w _ h1.1
  have e := hk g hl hS
  refine ⟨?_, ?_⟩
  · rw [← h1.1]; simp only [World.cell?, e]
  · rw [← h1.2]; simp only [World.frozen?, e]
/-- As SwSt, and no part lies in block av. -/
structure SwSt2 (lo : Nat) (w : World) (b av : Nat) (q : GPool) : Prop where
  ex : ∃ v0 v1, RowAt w b 0 [v0, v1] ∧ OwnPool lo w v0 v1 q ∧ (∀ g, v0.ownBlock = some g → g ≠ b ∧ g ≠ av) ∧ (∀ g, v1.ownBlock = some g → g ≠ b ∧ g ≠ av)
  wr : Wr w b 0 2
  lo_ : lo ≤ b
  ne : b ≠ av
theorem SwSt2.below {lo : Nat} {w w' : World} {b av : Nat} {q : GPool} (h : SwSt2 lo w b av q) (hb : Below w.heap.size w w') : SwSt2 lo w' b av q :=
  let ⟨v0, v1, h1, h2, h3, h4⟩ := h.ex
  ⟨⟨v0, v1, h1.below hb, h2.below hb, h3, h4⟩, h.wr.below hb, h.lo_, h.ne⟩
theorem SwSt.next {lo : Nat} {w w' : World} {b av : Nat} {q : GPool} (h : SwSt lo w b q) (hb : Below w.heap.size w w') (hav : w.heap.size ≤ av) : SwSt2 lo w' b av q :=
  let ⟨v0, v1, h1, h2, h3, h4⟩ := h.ex
  have hl : b < w.heap.size := World.block_lt_of_cell? _ _ h1.box2.1
  ⟨⟨v0, v1, h1.below hb, h2.below hb, fun g hg => ⟨h3 g hg, by have := h2.cells.base g hg; omega⟩, fun g hg => ⟨h4 g hg, by have := h2.free.base g hg; omega⟩⟩, h.wr.below hb, h.lo_, by omega⟩

set_option maxRecDepth 100000 in
set_option maxHeartbeats 4000000 in
theorem spec_PoolSweep_no (p : GPool) (roots : List GVal) (r : List Value) (u : Value) (lo lo1 : Nat) (hbulk : p.bulk ≤ 1048576) (hlen : p.cells.length ≤ 1048576) (hr : roots.length ≤ 1048576) (w : World) (hp : GPool.R lo w r p) (hu : Sl GVal.R 3 lo1 w u roots) (hok : ¬ psOk p roots) :
    Calls Try.prog 23 #[.agg r.toArray, u] w (PsPost w p roots) := by
  have Hp := hp
  obtain ⟨u0, u1, rfl, -, a0, a1⟩ := hp
  obtain ⟨pa, pc, rfl⟩ := a0.form
  obtain ⟨qa, qc, rfl⟩ := a1.form
  clear a0 a1
  have c1 := fun W (hW : Below w.heap.size w W) => l20Roots_c p roots _ _ lo lo1 hbulk hlen hr W (GPool.good.below Hp hW) (hu.below GVal.good hW)
  obtain ⟨ra, rc, rfl⟩ := hu.form
  have hend := fun (w' : World) => ps_no (w := w) (w' := w') hok
  rw [show (roots.all (poolHolds p) && poolOk p) = false from by
    cases h1 : roots.all (poolHolds p) <;> cases h2 : poolOk p <;> simp
    exact hok ⟨h2, h1⟩] at c1
  replace hend := Lib.hid hend
  replace c1 := Lib.hid c1
  clear hok Hp hu
  go_enter Try.func23, Try.ntmps23
  go_upto_region 1 with fail
  have B : RowAt (w.alloc (.cells #[.slice pa p.cells.length pc, .slice qa p.free.length qc] 26)) (w.heap.size) 0 [.slice pa p.cells.length pc, .slice qa p.free.length qc] := RowAt.box w #[.slice pa p.cells.length pc, .slice qa p.free.length qc] 26
  have B := B.below (show Below (w.alloc (.cells #[.slice pa p.cells.length pc, .slice qa p.free.length qc] 26)).heap.size (w.alloc (.cells #[.slice pa p.cells.length pc, .slice qa p.free.length qc] 26)) ((w.alloc (.cells #[.slice pa p.cells.length pc, .slice qa p.free.length qc] 26)).alloc (.cells #[.slice none 0 0, .slice none 0 0] 26)) by go_grown)
  have E : RowAt ((w.alloc (.cells #[.slice pa p.cells.length pc, .slice qa p.free.length qc] 26)).alloc (.cells #[.slice none 0 0, .slice none 0 0] 26)) (w.heap.size + 1) 0 [.slice none 0 0, .slice none 0 0] := by have h := RowAt.box (w.alloc (.cells #[.slice pa p.cells.length pc, .slice qa p.free.length qc] 26)) #[.slice none 0 0, .slice none 0 0] 26; simp only [World.size_alloc] at h; exact h
  have EW : Wr ((w.alloc (.cells #[.slice pa p.cells.length pc, .slice qa p.free.length qc] 26)).alloc (.cells #[.slice none 0 0, .slice none 0 0] 26)) (w.heap.size + 1) 0 2 := by have h := Wr.box (w.alloc (.cells #[.slice pa p.cells.length pc, .slice qa p.free.length qc] 26)) #[.slice none 0 0, .slice none 0 0] 26; simp only [World.size_alloc] at h; exact h
  have hw : Below w.heap.size w ((w.alloc (.cells #[.slice pa p.cells.length pc, .slice qa p.free.length qc] 26)).alloc (.cells #[.slice none 0 0, .slice none 0 0] 26)) := by go_grown
  generalize ((w.alloc (.cells #[.slice pa p.cells.length pc, .slice qa p.free.length qc] 26)).alloc (.cells #[.slice none 0 0, .slice none 0 0] 26)) = w0 at *
  obtain ⟨b_0, b_1⟩ := B.box2; have hsB := World.block_lt_of_cell? _ _ b_0; dsimp only at hsB; have ef_0 := EW.frz 0 (by omega); have ef_1 := EW.frz 1 (by omega); obtain ⟨e_0, e_1⟩ := E.box2; have hsE := World.block_lt_of_cell? _ _ e_0; dsimp only at hsE
  go_wp2_with (go_at_call 59; (with_reducible refine (c1.out _ hw).mono ?_); rintro en w5 ⟨rfl, hbk⟩; have hw5 : Below w.heap.size w w5 := hw.trans (hbk.mono hw.size); have E5 := E.below hbk; have EW5 := EW.below hbk; obtain ⟨e5_0, e5_1⟩ := E5.box2; have hsE5 := World.block_lt_of_cell? _ _ e5_0; dsimp only at hsE5; have e5f_0 := EW5.frz 0 (by omega); have e5f_1 := EW5.frz 1 (by omega))
  have q := stored2 (x := .slice none 0 0) (y := .slice none 0 0) e5_0 e5_1
  refine bodyPost_ret (v := .tuple #[.agg #[.slice none 0 0, .slice none 0 0], .int .i64 (-1)]) (by simp [results, Try.results23, go_sem, q.1, q.2]) rfl ?_
  exact hend.out _ (below_set2 hw5 (by omega) _ _)

set_option maxRecDepth 100000 in
set_option maxHeartbeats 8000000 in
theorem spec_PoolSweep_yes (p : GPool) (roots : List GVal) (r : List Value) (u : Value) (lo lo1 : Nat) (hbulk : p.bulk ≤ 1048576) (hr : roots.length ≤ 1048576) (w : World) (hp : GPool.R lo w r p) (hu : Sl GVal.R 3 lo1 w u roots) (hps : psOk p roots) :
    Calls Try.prog 23 #[.agg r.toArray, u] w (PsPost w p roots) := by
  have Hp := hp
  obtain ⟨u0, u1, rfl, -, a0, a1⟩ := hp
  have Ha0 := a0; have Ha1 := a1
  obtain ⟨pa, pc, rfl⟩ := a0.form
  obtain ⟨qa, qc, rfl⟩ := a1.form
  clear a0 a1
  have Hu := hu
  obtain ⟨ra, rc, rfl⟩ := hu.form
  obtain ⟨hp1, hp2, hp3⟩ := poolOk_parts hps.1
  have hlen : p.cells.length ≤ 1048576 := by omega
  have hlen2 : p.free.length ≤ 1048576 := by omega
  have H := heapIn_of hps.1 hps.2
  have BL := bloop_all H
  have c1 := fun W (hW : Below w.heap.size w W) => l20Roots_c p roots _ _ lo lo1 hbulk hlen hr W (GPool.good.below Hp hW) (Hu.below GVal.good hW)
  have c4 := fun W (hW : Below w.heap.size w W) => l20Copy_c p _ lo hlen hlen2 W (GPool.good.below Hp hW)
  have c5 := fun W (hW : Below w.heap.size w W) => l11Marks_c p.cells roots _ _ lo lo1 H hlen hr W (Ha0.below GCell.good hW) (Hu.below GVal.good hW)
  have c6 := fun (f : Int) W (hW : Below w.heap.size w W) => l05Has_c p.free _ lo f W (Ha1.below IntR.good hW)
  rw [hps.1, hps.2, Bool.true_and] at c1
  replace c1 := Lib.hid c1; replace c4 := Lib.hid c4; replace c5 := Lib.hid c5; replace c6 := Lib.hid c6; replace H := Lib.hid H; replace BL := Lib.hid BL
  have hyes := Lib.hid (@ps_yes w (p := p) (roots := roots) (h := hps))
  replace hp3 := Lib.hid hp3; replace hps := Lib.hid hps
  clear Ha0 Ha1 hu Hu Hp hbulk
  generalize hn : p.cells.length = n at *
  generalize hm : roots.length = m at *
  obtain ⟨i0, hi0, hz0, hz1, hz2⟩ := info_parts info_IntS
  have J := Lib.hid hi0; have J0 := Lib.hid hz0; have J1 := Lib.hid hz1; have J2 := Lib.hid hz2
  clear hi0 hz0 hz1 hz2
  have hnh := Lib.hid hn
  go_enter Try.func23, Try.ntmps23
  go_upto_region 1 with fail
  have B : RowAt (w.alloc (.cells #[.slice pa n pc, .slice qa p.free.length qc] 26)) (w.heap.size) 0 [.slice pa n pc, .slice qa p.free.length qc] := RowAt.box w #[.slice pa n pc, .slice qa p.free.length qc] 26
  have B := B.below (show Below (w.alloc (.cells #[.slice pa n pc, .slice qa p.free.length qc] 26)).heap.size (w.alloc (.cells #[.slice pa n pc, .slice qa p.free.length qc] 26)) ((w.alloc (.cells #[.slice pa n pc, .slice qa p.free.length qc] 26)).alloc (.cells #[.slice none 0 0, .slice none 0 0] 26)) by go_grown)
  have E : RowAt ((w.alloc (.cells #[.slice pa n pc, .slice qa p.free.length qc] 26)).alloc (.cells #[.slice none 0 0, .slice none 0 0] 26)) (w.heap.size + 1) 0 [.slice none 0 0, .slice none 0 0] := by have h := RowAt.box (w.alloc (.cells #[.slice pa n pc, .slice qa p.free.length qc] 26)) #[.slice none 0 0, .slice none 0 0] 26; simp only [World.size_alloc] at h; exact h
  have EW : Wr ((w.alloc (.cells #[.slice pa n pc, .slice qa p.free.length qc] 26)).alloc (.cells #[.slice none 0 0, .slice none 0 0] 26)) (w.heap.size + 1) 0 2 := by have h := Wr.box (w.alloc (.cells #[.slice pa n pc, .slice qa p.free.length qc] 26)) #[.slice none 0 0, .slice none 0 0] 26; simp only [World.size_alloc] at h; exact h
  have hw : Below w.heap.size w ((w.alloc (.cells #[.slice pa n pc, .slice qa p.free.length qc] 26)).alloc (.cells #[.slice none 0 0, .slice none 0 0] 26)) := by go_grown
  generalize ((w.alloc (.cells #[.slice pa n pc, .slice qa p.free.length qc] 26)).alloc (.cells #[.slice none 0 0, .slice none 0 0] 26)) = w0 at *
  obtain ⟨b_0, b_1⟩ := B.box2; have hsB := World.block_lt_of_cell? _ _ b_0; dsimp only at hsB; have ef_0 := EW.frz 0 (by omega); have ef_1 := EW.frz 1 (by omega); obtain ⟨e_0, e_1⟩ := E.box2; have hsE := World.block_lt_of_cell? _ _ e_0; dsimp only at hsE
  go_upto_region 3 with (go_at_call 59; (with_reducible refine (c1.out _ hw).mono ?_); rintro en w5 ⟨rfl, hbk⟩; have hw5 : Below w.heap.size w w5 := hw.trans (hbk.mono hw.size); have B5 := B.below hbk; have E5 := E.below hbk; have EW5 := EW.below hbk; obtain ⟨b5_0, b5_1⟩ := B5.box2; have hsB5 := World.block_lt_of_cell? _ _ b5_0; dsimp only at hsB5)
  go_upto_region 4 with (go_at_call 44; (with_reducible refine (c4.out _ hw5).mono ?_); rintro en w6 ⟨q0, q1, rfl, OP, hbk⟩; obtain ⟨xa, xc, rfl⟩ := OP.cells.form; obtain ⟨ya, yc, rfl⟩ := OP.free.form; have hw6 := hw5.trans (hbk.mono hw5.size); have hb6 : Below w5.heap.size w5 w6 := hbk; have hs6 := hbk.size)
  rw [hnh.out] at OP
  obtain ⟨w7, hW7⟩ : ∃ W, W = w6.alloc (.cells #[.slice xa n xc, .slice ya p.free.length yc] 26) := ⟨_, rfl⟩
  rw [← hW7]
  have S7 : SwSt w5.heap.size w7 w6.heap.size p := by rw [hW7]; exact SwSt.made OP hs6
  have hb7 : Below w5.heap.size w5 w7 := hb6.trans (by rw [hW7]; go_grown)
  have hbO : w6.heap.size < w7.heap.size := by rw [hW7]; simp
  have hw7 := hw5.trans (hb7.mono hw5.size)
  have B7 := B5.below hb7; have E7 := E5.below hb7; have EW7 := EW5.below hb7
  clear hW7 OP hw6 hb6 hbk B E EW hbO
  generalize w6.heap.size = bO at *
  have hs7 := hb7.size
  obtain ⟨b7_0, b7_1⟩ := B7.box2; have hsB7 := World.block_lt_of_cell? _ _ b7_0; dsimp only at hsB7
  go_upto_region 5 with fail
  go_upto_region 6 with (go_at_call 60; (with_reducible refine (c5.out _ hw7).mono ?_); rintro en w8 ⟨g, lv, rfl, hg1, BS, hlv, hlive, hbk⟩; have hb8 : Below w5.heap.size w5 w8 := hb7.trans (hbk.mono hs7); have S8 := S7.next hbk hg1; have hs8 := hbk.size)
  have hLv : lv = psLive p roots := live_eq H.out BL.out (hlv.trans hn.symm) hlive
  replace hyes := hyes.out
  rw [← hLv] at hyes
  replace hyes := Lib.hid hyes; replace BS := Lib.hid BS; replace hlv := Lib.hid hlv
  clear hlive hLv H BL S7 B7 b7_0 b7_1 hsB7 c1 c4 c5 hbk
  go_loopw [22, 7] (fun i a wr => ∃ k : Nat, k ≤ n ∧ i = .int .i64 k ∧ a = .int .i64 (swp p lv k).2 ∧ Below w5.heap.size w5 wr ∧ SwSt2 w5.heap.size wr bO g (swp p lv k).1 ∧ Hid (Bools wr g lv)) (fun i _ _ => n - (intOf i).toNat)
  case atStart => exact ⟨0, by omega, rfl, rfl, hb8, S8, BS⟩
  case round =>
    clear hb8 S8 BS
    obtain ⟨k, hk, rfl, rfl, hwr, S, BS⟩ := hrel
    have hsr := hwr.size
    have hsl := swp_len p lv k
    have B := B5.below hwr
    have hwR := hw5.trans (hwr.mono hw5.size)
    obtain ⟨b_0, b_1⟩ := B.box2; have hsB := World.block_lt_of_cell? _ _ b_0; dsimp only at hsB
    by_cases hlt : k < n
    · obtain ⟨x, hx⟩ : ∃ x, lv[k]? = some x := ⟨_, List.getElem?_eq_getElem (show k < lv.length by rw [hlv.out]; exact hlt)⟩
      have hlk := hx
      have R0 := (BS.out k x hx).1
      have hgr := World.block_lt_of_cell? _ _ R0; dsimp only at hgr
      replace hx := Lib.hid hx
      cases x
      · have c6k := fun W (hW : Below wr.heap.size wr W) => c6.out (k : Int) W (hwR.trans (hW.mono hwR.size))
        cases hfr : p.free.contains (k : Int)
        · have he := Lib.hid (swp_yes hlk hfr)
          rw [hfr] at c6k
          replace c6k := Lib.hid c6k
          generalize (swp p lv k).2 = cn at *
          generalize hq : (swp p lv k).1 = q at *
          obtain ⟨v0, v1, RO, OP, hb0, hb1⟩ := S.ex
          have hqn : q.cells.length = n := hsl.1.trans hnh.out
          have OPc := OP.cells.1
          rw [hqn] at OPc
          obtain ⟨gc, cc, rfl, hgc1, hgc2, hcc, hccm, -, hcW⟩ := own_cells OPc (by omega)
          have OPf := OP.free
          obtain ⟨oa, oc, rfl⟩ := OPf.form
          have hA : Arr wr gc (n * 9) := fun t ht => by simpa using hcW t ht
          have hap : ∀ g, (Value.slice oa q.free.length oc).ownBlock = some g → g ≠ gc := fun g hg e => OP.apart gc rfl (by rw [← e]; exact hg)
          have hlob := S.lo_
          have WO := S.wr
          obtain ⟨q_0, q_1⟩ := RO.box2
          have qf_1 := WO.frz 1 (by omega)
          have hbO : bO < wr.heap.size := World.block_lt_of_cell? _ _ q_0
          have hfl : q.free.length ≤ 1048576 + 1048576 := by have := hsl.2.1; omega
          have hcl2 : cn ≤ k := hsl.2.2
          have hbg : bO ≠ g := S.ne
          have hgcg : gc ≠ g := (hb0 gc rfl).2
          have hgb : gc ≠ bO := (hb0 gc rfl).1
          replace S := Lib.hid S; replace hfr := Lib.hid hfr; replace hlk := Lib.hid hlk; replace hsl := Lib.hid hsl; replace hq := Lib.hid hq
          replace hb0 := Lib.hid hb0; replace hb1 := Lib.hid hb1; replace hap := Lib.hid hap; replace OP := Lib.hid OP; replace OPf := Lib.hid OPf; replace OPc := Lib.hid OPc; replace hqn := Lib.hid hqn
          replace RO := Lib.hid RO; replace hA := Lib.hid hA
          clear hcW
          go_upto_region 9 with (go_at_call 61; (with_reducible refine (c6k.out _ (by go_grown)).mono ?_); rintro e w0a ⟨rfl, hbk⟩; have ROa := RO.out.below hbk; have hAa : Arr w0a gc (n * 9) := Arr.below hA.out hbk; have WOa := WO.below hbk; have OPfa := OPf.out.below hbk; have OPca := own_below OPc.out hbk; have BSa := Lib.hid (BS.out.below hbk); have hwra := hwr.trans (hbk.mono hsr); have hsa := hbk.size)
          obtain ⟨x0, k0, f0⟩ := hAa (k * 9) (by omega); obtain ⟨x1, k1, f1⟩ := hAa (k * 9 + 1) (by omega); obtain ⟨x2, k2, f2⟩ := hAa (k * 9 + 2) (by omega); obtain ⟨x3, k3, f3⟩ := hAa (k * 9 + 3) (by omega); obtain ⟨x4, k4, f4⟩ := hAa (k * 9 + 4) (by omega); obtain ⟨x5, k5, f5⟩ := hAa (k * 9 + 5) (by omega); obtain ⟨x6, k6, f6⟩ := hAa (k * 9 + 6) (by omega); obtain ⟨x7, k7, f7⟩ := hAa (k * 9 + 7) (by omega); obtain ⟨x8, k8, f8⟩ := hAa (k * 9 + 8) (by omega)
          clear q_0 q_1 qf_1 hAa b_0 b_1 hsB R0
          obtain ⟨q_0, q_1⟩ := ROa.box2
          go_upto_region 10 with fail
          obtain ⟨w1, hW1⟩ : ∃ W, W = storeRow w0a gc (k * 9) (cellRow zeroC) := ⟨_, rfl⟩
          change Code.wp _ _ _ _ (storeRow w0a gc (k * 9) (cellRow zeroC))
          rw [← hW1]
          have K1 : Kept (· = gc) w0a w1 := by rw [hW1]; exact kept_storeRow gc _ _ (Kept.refl _ _)
          have hz1 : w0a.heap.size ≤ w1.heap.size := by rw [hW1]; exact (below_storeRow gc _ _ _).size
          have hbw1 : Below w5.heap.size w5 w1 := by rw [hW1]; exact hwra.trans ((below_storeRow gc _ _ _).mono (by omega))
          have OC1 : OwnCells w5.heap.size w1 (.slice (some ⟨gc, 0, none⟩) n cc) (q.cells.set k zeroC) := by
            refine ⟨?_, fun y hy => ?_⟩
            · have := own_store (v := .slice none 0 0) flatCell (k := k) (y := zeroC) OPca (by rw [hqn.out]; exact hlt)
              rw [hW1, List.length_set, hqn.out]
              exact this
            · rcases List.mem_or_eq_of_mem_set hy with h | rfl
              · exact OP.out.cells.2 y h
              · exact zeroC_wf
          have OF1 : Hid (OwnInts w5.heap.size w1 (.slice oa q.free.length oc) q.free) := OPfa.kept K1 (fun g hg => hap.out g hg)
          have RO1 := ROa.kept K1 hgb.symm
          have WO1 := WOa.kept K1 hgb.symm
          have BS1 := Lib.hid (BSa.out.kept K1 hgcg.symm)
          replace OC1 := Lib.hid OC1
          clear hW1 K1 k0 k1 k2 k3 k4 k5 k6 k7 k8 f0 f1 f2 f3 f4 f5 f6 f7 f8 q_0 q_1 RO WO OPca OPfa ROa WOa
          obtain ⟨q_0, q_1⟩ := RO1.box2
          have qf_1 := WO1.frz 1 (by omega)
          generalize hfn : q.free.length = m2 at *
          replace hfn := Lib.hid hfn
          go_wp2_with (at_builtin; refine wpList_append_lies _ rfl _ _ _ rfl w5.heap.size 3 i0 _ 1 8 Try.underlying24 J.out J0.out J1.out J2.out rfl (by omega) (.slice oa m2 oc) m2 (rowsOf intRow q.free) rfl (own_below (hfn.out ▸ OF1.out.1) (by go_grown)) ⟨w1.heap.size, 0, none⟩ 1 1 [.int .i64 (k : Int)] rfl rfl (World.news_of_block (cs := #[.int .i64 (k : Int)]) (t := 3) (fr := (0, 0)) (heap_alloc_new' _ _ _ (by simp))) (by intro u hu; simp at hu; subst hu; rfl) (by omega) (by unfold maxLen; omega) (by omega) (by simp; omega) _ rfl ?_; intro g' cap w3 hown hgrow hat hlt3; have hk3 := kept_of hgrow (w := w1) (by go_grown); have hz3 := hgrow.size; (simp only [World.size_alloc] at hz3 hat); have RO3 := RO1.kept hk3 (fun e => (hb1.out _ e.symm).1 rfl); have WO3 := WO1.kept hk3 (fun e => (hb1.out _ e.symm).1 rfl); obtain ⟨q3_0, q3_1⟩ := RO3.box2; have f3_1 := WO3.frz 1 (by omega))
          go_roundw
          case rel =>
            have hbA : gc < w1.heap.size := by omega
            have K4 : Kept (· = bO) w3 (w3.setCell ⟨bO, 1, none⟩ (.slice (some ⟨g', 0, none⟩) (m2 + 1) cap)) := Kept.set (S := (· = bO)) (p := ⟨bO, 1, none⟩) (Kept.refl _ _) rfl _
            have hB3 : Below w5.heap.size w5 w3 := below_grown2 (wr := w1) hgrow (by go_grown) hbw1 hbw1.size (hfn.out ▸ OF1.out.1)
            have hgg : g' ≠ gc ∧ g' ≠ bO ∧ g' ≠ g := by
              rcases hat with h | h
              · exact ⟨hap.out g' h, hb1.out g' h⟩
              · refine ⟨?_, ?_, ?_⟩ <;> omega
            have hlC : (q.cells.set k zeroC).length = n := by rw [List.length_set]; exact hqn.out
            have hlF : (q.free ++ [(k : Int)]).length = m2 + 1 := by rw [List.length_append, hfn.out]; rfl
            have OC3 := OC1.out.kept hk3 (fun q hq e => by
              obtain rfl : gc = q := by simpa [Value.ownBlock] using hq
              exact (hap.out _ e.symm) rfl)
            have OF3 : OwnInts w5.heap.size w3 (.slice (some ⟨g', 0, none⟩) (m2 + 1) cap) (q.free ++ [(k : Int)]) := ⟨by rw [hlF, rowsOf_append, rowsOf_one]; exact hown, fun y hy => by
              rcases List.mem_append.1 hy with h | h
              · exact OF1.out.2 y h
              · simp at h; subst h; constructor <;> omega⟩
            have BS3 := BS1.out.kept hk3 (fun e => (hb1.out _ e.symm).2 rfl)
            have q4 := stored2' (y := .slice (some ⟨g', 0, none⟩) (m2 + 1) cap) q3_0 q3_1
            have S4 : SwSt2 w5.heap.size (w3.setCell ⟨bO, 1, none⟩ (.slice (some ⟨g', 0, none⟩) (m2 + 1) cap)) bO g ⟨q.cells.set k zeroC, q.free ++ [(k : Int)]⟩ := by
              refine ⟨⟨_, _, RowAt.of2 q4.1 q4.2, ⟨OC3.kept K4 (fun q hq e => ?_), OF3.kept K4 (fun q hq e => ?_), fun q h1 h2 => ?_⟩, hb0.out, fun q hq => ?_⟩, WO3.set 1 _, hlob, hbg⟩
              · obtain rfl : gc = q := by simpa [Value.ownBlock] using hq
                exact hgb e
              · obtain rfl : g' = q := by simpa [Value.ownBlock] using hq
                exact hgg.2.1 e
              · obtain rfl : gc = q := by simpa [Value.ownBlock] using h1
                exact hgg.1 (by simpa [Value.ownBlock] using h2)
              · obtain rfl : g' = q := by simpa [Value.ownBlock] using hq
                exact hgg.2
            exact ⟨k + 1, by omega, by go_num, by rw [he.out]; first | rfl | go_num, hB3.setCell (p := ⟨bO, 1, none⟩) hlob _, by rw [he.out]; exact S4, BS3.kept K4 hbg.symm⟩
          case measure => simp [intOf]; omega
        · have he := Lib.hid (swp_no (p := p) (lv := lv) (k := k) (fun h => by rw [hfr] at h; exact absurd h.2 (by simp)))
          rw [hfr] at c6k
          replace c6k := Lib.hid c6k
          generalize hcn : (swp p lv k).2 = cn at *
          generalize hq : (swp p lv k).1 = q at *
          replace S := Lib.hid S; replace hfr := Lib.hid hfr; replace hlk := Lib.hid hlk; replace hsl := Lib.hid hsl; replace hcn := Lib.hid hcn; replace hq := Lib.hid hq
          go_wp2_with (go_at_call 61; (with_reducible refine (c6k.out _ (by go_grown)).mono ?_); rintro e w0a ⟨rfl, hbk⟩; have S2 := Lib.hid (S.out.below hbk); have BSa := Lib.hid (BS.out.below hbk); have hwra := hwr.trans (hbk.mono hsr))
          go_roundw
          case rel => exact ⟨k + 1, by omega, by go_num, by rw [he.out, hcn.out], hwra, by rw [he.out, hq.out]; exact S2.out, BSa⟩
          case measure => simp [intOf]; omega
      · have he := Lib.hid (swp_no (p := p) (lv := lv) (k := k) (fun h => by rw [hlk] at h; exact absurd h.1 (by simp)))
        generalize hcn : (swp p lv k).2 = cn at *
        generalize hq : (swp p lv k).1 = q at *
        replace S := Lib.hid S; replace hlk := Lib.hid hlk; replace hsl := Lib.hid hsl; replace hcn := Lib.hid hcn; replace hq := Lib.hid hq
        go_wp2_with fail
        go_roundw
        case rel => exact ⟨k + 1, by omega, by go_num, by rw [he.out, hcn.out], hwr, by rw [he.out, hq.out]; exact S.out, BS⟩
        case measure => simp [intOf]; omega
    · obtain rfl : n = k := by omega
      obtain ⟨v0, v1, RO, OP, hb0, hb1⟩ := S.ex
      have hlob := S.lo_
      obtain ⟨xa, xc, rfl⟩ := OP.cells.form; obtain ⟨ya, yc, rfl⟩ := OP.free.form
      obtain ⟨q_0, q_1⟩ := RO.box2
      have E := E5.below hwr; have EW := EW5.below hwr
      have ef_0 := EW.frz 0 (by omega); have ef_1 := EW.frz 1 (by omega); obtain ⟨e_0, e_1⟩ := E.box2; have hsE := World.block_lt_of_cell? _ _ e_0; dsimp only at hsE
      have hsE9 := World.block_lt_of_cell? _ _ E5.box2.1; dsimp only at hsE9
      have hbO : bO < wr.heap.size := World.block_lt_of_cell? _ _ q_0
      have hz := fun W => hyes.out W n (.slice xa (swp p lv n).1.cells.length xc) (.slice ya (swp p lv n).1.free.length yc) rfl
      generalize hcn : (swp p lv n).2 = cn at *
      generalize hq : (swp p lv n).1 = q at *
      clear hsl
      replace OP := Lib.hid OP; replace RO := Lib.hid RO; replace hz := Lib.hid hz; replace hb0 := Lib.hid hb0; replace hb1 := Lib.hid hb1; replace S := Lib.hid S
      go_wp2_with fail
      have q2 := stored2 (x := .slice xa q.cells.length xc) (y := .slice ya q.free.length yc) e_0 e_1
      refine bodyPost_ret (v := .tuple #[.agg #[.slice xa q.cells.length xc, .slice ya q.free.length yc], .int .i64 (cn : Int)]) (by simp [results, Try.results23, go_sem, q2.1, q2.2]) rfl ?_
      refine hz.out _ (OwnPool.kept (S := (· = w.heap.size + 1)) (OP.out.mono (by omega)) (Kept.set (S := (· = w.heap.size + 1)) (p := ⟨w.heap.size + 1, 1, none⟩) (Kept.set (S := (· = w.heap.size + 1)) (p := ⟨w.heap.size + 1, 0, none⟩) (Kept.refl _ _) rfl _) rfl _) (fun g hg e => ?_) (fun g hg e => ?_)) (below_set2 hwR (by omega) _ _)
      · have := OP.out.cells.base g hg; omega
      · have := OP.out.free.base g hg; omega

theorem impl_PoolSweep_c (p : GPool) (roots : List GVal) (r : List Value) (u : Value) (lo lo1 : Nat) (hbulk : p.bulk ≤ 1048576) (hr : roots.length ≤ 1048576) (w : World) (hp : GPool.R lo w r p) (hu : Sl GVal.R 3 lo1 w u roots) :
    Calls Try.prog 22 #[.agg r.toArray, u] w (PsPost w p roots) := by
  cases hok : poolOk p
  · exact impl_PoolSweep_no1 p roots r u lo lo1 hbulk w hp hu hok
  · exact impl_PoolSweep_yes p roots r u lo lo1 hbulk hr w hp hu hok
theorem spec_PoolSweep_c (p : GPool) (roots : List GVal) (r : List Value) (u : Value) (lo lo1 : Nat) (hbulk : p.bulk ≤ 1048576) (hr : roots.length ≤ 1048576) (w : World) (hp : GPool.R lo w r p) (hu : Sl GVal.R 3 lo1 w u roots) :
    Calls Try.prog 23 #[.agg r.toArray, u] w (PsPost w p roots) := by
  by_cases hok : psOk p roots
  · exact spec_PoolSweep_yes p roots r u lo lo1 hbulk hr w hp hu hok
  · have n0 := length_le_bulkS (f := GCell.bulk) GCell.bulk_nonneg p.cells
    have n1 := length_nonneg p.free
    have hbulk' := hbulk
    simp only [GPool.bulk] at hbulk'
    exact spec_PoolSweep_no p roots r u lo lo1 hbulk (by omega) hr w hp hu hok

end Go.Proofs.Ytajbgkpjmgmdhaa
