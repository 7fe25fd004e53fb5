/- PoolSweep: the program's walk, joined. -/
import Derived.Test.YtajbgkpjmgmdhaaSweep2
namespace Go.Proofs.Ytajbgkpjmgmdhaa
open Go.RowKit
set_option linter.unusedVariables false
set_option linter.unusedSimpArgs false
attribute [local go_sem] Ext.cell

set_option maxRecDepth 100000 in
set_option maxHeartbeats 4000000 in
theorem impl_PoolSweep_no1 (p : GPool) (roots : List GVal) (r : List Value) (u : Value) (lo lo1 : Nat) (hbulk : p.bulk ≤ 1048576) (w : World) (hp : GPool.R lo w r p) (hu : Sl GVal.R 3 lo1 w u roots) (hok : poolOk p = false) :
    Calls Try.prog 22 #[.agg r.toArray, u] w (PsPost w p roots) := by
  have Hp := hp
  obtain ⟨u0, u1, rfl, -, a0, a1⟩ := hp
  obtain ⟨pa, pc, rfl⟩ := a0.form
  obtain ⟨qa, qc, rfl⟩ := a1.form
  clear a0 a1
  obtain ⟨a1, c1, rfl⟩ := hu.form
  have c1 := fun W (hW : Below w.heap.size w W) => impl_PoolOk_c p _ lo hbulk W (GPool.good.below Hp hW)
  have hend := fun (w' : World) => ps_no (w := w) (w' := w') (p := p) (roots := roots) (fun h => by rw [h.1] at hok; cases hok)
  rw [hok] at c1
  replace hend := Lib.hid hend
  replace c1 := Lib.hid c1
  clear hok Hp hu
  go_enter Try.func22, Try.ntmps22
  go_upto_region 1 with fail
  have B : RowAt (w.alloc (.cells #[.slice pa p.cells.length pc, .slice qa p.free.length qc] 26)) (w.heap.size) 0 [.slice pa p.cells.length pc, .slice qa p.free.length qc] := RowAt.box w #[.slice pa p.cells.length pc, .slice qa p.free.length qc] 26
  have B := B.below (show Below (w.alloc (.cells #[.slice pa p.cells.length pc, .slice qa p.free.length qc] 26)).heap.size (w.alloc (.cells #[.slice pa p.cells.length pc, .slice qa p.free.length qc] 26)) ((w.alloc (.cells #[.slice pa p.cells.length pc, .slice qa p.free.length qc] 26)).alloc (.cells #[.slice none 0 0, .slice none 0 0] 26)) by go_grown)
  have E : RowAt ((w.alloc (.cells #[.slice pa p.cells.length pc, .slice qa p.free.length qc] 26)).alloc (.cells #[.slice none 0 0, .slice none 0 0] 26)) (w.heap.size + 1) 0 [.slice none 0 0, .slice none 0 0] := by have h := RowAt.box (w.alloc (.cells #[.slice pa p.cells.length pc, .slice qa p.free.length qc] 26)) #[.slice none 0 0, .slice none 0 0] 26; simp only [World.size_alloc] at h; exact h
  have EW : Wr ((w.alloc (.cells #[.slice pa p.cells.length pc, .slice qa p.free.length qc] 26)).alloc (.cells #[.slice none 0 0, .slice none 0 0] 26)) (w.heap.size + 1) 0 2 := by have h := Wr.box (w.alloc (.cells #[.slice pa p.cells.length pc, .slice qa p.free.length qc] 26)) #[.slice none 0 0, .slice none 0 0] 26; simp only [World.size_alloc] at h; exact h
  have hw : Below w.heap.size w ((w.alloc (.cells #[.slice pa p.cells.length pc, .slice qa p.free.length qc] 26)).alloc (.cells #[.slice none 0 0, .slice none 0 0] 26)) := by go_grown
  generalize ((w.alloc (.cells #[.slice pa p.cells.length pc, .slice qa p.free.length qc] 26)).alloc (.cells #[.slice none 0 0, .slice none 0 0] 26)) = w0 at *
  obtain ⟨b_0, b_1⟩ := B.box2; have hsB := World.block_lt_of_cell? _ _ b_0; dsimp only at hsB; have ef_0 := EW.frz 0 (by omega); have ef_1 := EW.frz 1 (by omega); obtain ⟨e_0, e_1⟩ := E.box2; have hsE := World.block_lt_of_cell? _ _ e_0; dsimp only at hsE
  go_wp2_with (go_at_call 11; (with_reducible refine (c1.out _ hw).mono ?_); rintro en w5 ⟨rfl, hbk⟩; have hw5 : Below w.heap.size w w5 := hw.trans (hbk.mono hw.size); have E5 := E.below hbk; have EW5 := EW.below hbk; obtain ⟨e5_0, e5_1⟩ := E5.box2; have hsE5 := World.block_lt_of_cell? _ _ e5_0; dsimp only at hsE5; have e5f_0 := EW5.frz 0 (by omega); have e5f_1 := EW5.frz 1 (by omega))
  have q := stored2 (x := .slice none 0 0) (y := .slice none 0 0) e5_0 e5_1
  refine bodyPost_ret (v := .tuple #[.agg #[.slice none 0 0, .slice none 0 0], .int .i64 (-1)]) (by simp [results, Try.results22, go_sem, q.1, q.2]) rfl ?_
  exact hend.out _ (below_set2 hw5 (by omega) _ _)

set_option maxRecDepth 100000 in
set_option maxHeartbeats 8000000 in
theorem impl_PoolSweep_yes (p : GPool) (roots : List GVal) (r : List Value) (u : Value) (lo lo1 : Nat) (hbulk : p.bulk ≤ 1048576) (hr : roots.length ≤ 1048576) (w : World) (hp : GPool.R lo w r p) (hu : Sl GVal.R 3 lo1 w u roots) (hok : poolOk p = true) :
    Calls Try.prog 22 #[.agg r.toArray, u] w (PsPost w p roots) := by
  have Hp := hp
  have Hu := hu
  obtain ⟨u0, u1, rfl, -, a0, a1⟩ := hp
  have Ha0 := a0
  obtain ⟨pa, pc, rfl⟩ := a0.form
  obtain ⟨qa, qc, rfl⟩ := a1.form
  clear a0 a1
  obtain ⟨ra, rc, rfl⟩ := hu.form
  obtain ⟨hp1, hp2, hp3⟩ := poolOk_parts hok
  have hlen : p.cells.length ≤ 1048576 := by omega
  have hlen2 : p.free.length ≤ 1048576 := by omega
  have c1 := fun W (hW : Below w.heap.size w W) => impl_PoolOk_c p _ lo hbulk W (GPool.good.below Hp hW)
  have c2 := fun W (hW : Below w.heap.size w W) => frees_c p _ lo hlen hp3 W (GPool.good.below Hp hW)
  have c4 := fun W (hW : Below w.heap.size w W) => clone_c p _ lo hlen hlen2 W (GPool.good.below Hp hW)
  have c5 := fun (H : HeapIn p.cells roots) W (hW : Below w.heap.size w W) => copied_c p.cells roots _ _ lo lo1 H hlen hr W (Ha0.below GCell.good hW) (hu.below GVal.good hW)
  rw [hok] at c1
  replace c1 := Lib.hid c1; replace c2 := Lib.hid c2; replace c4 := Lib.hid c4; replace c5 := Lib.hid c5
  replace hp3 := Lib.hid hp3; replace Hp := Lib.hid Hp; replace Hu := Lib.hid Hu; replace hok := Lib.hid hok
  clear Ha0 hu hbulk
  have eg : ∀ args w, (callFunc 56 args).run Try.prog w = .ok (.enter 56 args) w := fun _ _ => by kernel_rfl
  generalize hn : p.cells.length = n at *
  generalize hm : roots.length = m at *
  go_enter Try.func22, Try.ntmps22
  go_upto_region 1 with fail
  have B : RowAt (w.alloc (.cells #[.slice pa n pc, .slice qa p.free.length qc] 26)) (w.heap.size) 0 [.slice pa n pc, .slice qa p.free.length qc] := RowAt.box w #[.slice pa n pc, .slice qa p.free.length qc] 26
  have B := B.below (show Below (w.alloc (.cells #[.slice pa n pc, .slice qa p.free.length qc] 26)).heap.size (w.alloc (.cells #[.slice pa n pc, .slice qa p.free.length qc] 26)) ((w.alloc (.cells #[.slice pa n pc, .slice qa p.free.length qc] 26)).alloc (.cells #[.slice none 0 0, .slice none 0 0] 26)) by go_grown)
  have E : RowAt ((w.alloc (.cells #[.slice pa n pc, .slice qa p.free.length qc] 26)).alloc (.cells #[.slice none 0 0, .slice none 0 0] 26)) (w.heap.size + 1) 0 [.slice none 0 0, .slice none 0 0] := by have h := RowAt.box (w.alloc (.cells #[.slice pa n pc, .slice qa p.free.length qc] 26)) #[.slice none 0 0, .slice none 0 0] 26; simp only [World.size_alloc] at h; exact h
  have EW : Wr ((w.alloc (.cells #[.slice pa n pc, .slice qa p.free.length qc] 26)).alloc (.cells #[.slice none 0 0, .slice none 0 0] 26)) (w.heap.size + 1) 0 2 := by have h := Wr.box (w.alloc (.cells #[.slice pa n pc, .slice qa p.free.length qc] 26)) #[.slice none 0 0, .slice none 0 0] 26; simp only [World.size_alloc] at h; exact h
  have hw : Below w.heap.size w ((w.alloc (.cells #[.slice pa n pc, .slice qa p.free.length qc] 26)).alloc (.cells #[.slice none 0 0, .slice none 0 0] 26)) := by go_grown
  generalize ((w.alloc (.cells #[.slice pa n pc, .slice qa p.free.length qc] 26)).alloc (.cells #[.slice none 0 0, .slice none 0 0] 26)) = w0 at *
  obtain ⟨b_0, b_1⟩ := B.box2; have hsB := World.block_lt_of_cell? _ _ b_0; dsimp only at hsB; have ef_0 := EW.frz 0 (by omega); have ef_1 := EW.frz 1 (by omega); obtain ⟨e_0, e_1⟩ := E.box2; have hsE := World.block_lt_of_cell? _ _ e_0; dsimp only at hsE
  go_upto_region 4 with (first
      | (go_at_call 11; (with_reducible refine (c1.out _ hw).mono ?_); rintro en w5 ⟨rfl, hbk⟩; have hw5 : Below w.heap.size w w5 := hw.trans (hbk.mono hw.size); have B5 := B.below hbk; have E5 := E.below hbk; have EW5 := EW.below hbk; obtain ⟨b5_0, b5_1⟩ := B5.box2; have hsB5 := World.block_lt_of_cell? _ _ b5_0; dsimp only at hsB5)
      | (go_at_call 40; (with_reducible refine (c2.out _ hw5).mono ?_); rintro en w6 ⟨g, rfl, hg1, hg2, hM, hbk⟩; have hw6 : Below w.heap.size w w6 := hw5.trans (hbk.mono hw5.size); have B6 := B5.below hbk; have E6 := E5.below hbk; have EW6 := EW5.below hbk))
  obtain ⟨w7, hW7⟩ : ∃ W, W = w6.alloc (.cells #[.slice (some ⟨g, 0, none⟩) n n] 75) := ⟨_, rfl⟩
  rw [← hW7]
  have hb7 : Below w6.heap.size w6 w7 := by rw [hW7]; go_grown
  have F7 : RowAt w7 w6.heap.size 0 [.slice (some ⟨g, 0, none⟩) n n] := by rw [hW7]; exact RowAt.box w6 #[_] _
  clear hW7
  have hw7 := hw6.trans (hb7.mono hw6.size)
  have B7 := B6.below hb7; have E7 := E6.below hb7; have EW7 := EW6.below hb7
  have hM7 : Hid (Met w7 g n p.free) := hM.below hb7
  have hs7 := hw7.size
  have hg7 : g < w7.heap.size := by have := hb7.size; omega
  clear hb7 hM B6 E6 EW6 B5 E5 EW5 B E EW c1 c2 hbk
  generalize hbF : w6.heap.size = bF at *
  have hcl : ∀ W (hW : Below w7.heap.size w7 W), Calls Try.prog 55 #[.slice ra m rc, .func (.func 56) #[] #[.pointer (some ⟨w.heap.size, 0, none⟩), .pointer (some ⟨bF, 0, none⟩)]] W fun e w' => e = .returned (.bool (!(roots.all (poolHolds p)))) ∧ Below W.heap.size W w' := fun W hW => by
    rw [List.not_all_eq_any_not]
    refine containsFuncVal_c roots (fun v => !poolHolds p v) 56 _ lo1 _ W (Hu.out.below GVal.good (hw7.trans (hW.mono hs7))) (fun i x r W' hx hW' hr => ?_) eg
    obtain ⟨rfl, -⟩ := hr
    have hWW := hW.trans (hW'.mono hW.size)
    exact sweep1_c p _ lo 0 w.heap.size bF x _ (by rw [hn]; exact hlen) W' (B7.below hWW) (F7.below hWW) (GPool.good.below Hp.out (hw7.trans (hWW.mono hs7))) (by rw [hn]; exact (hM7.out.below hWW).sl (Nat.le_refl _) (by omega))
  cases hrt : roots.all (poolHolds p)
  · rw [hrt] at hcl
    have hend := fun (w' : World) => ps_no (w := w) (w' := w') (p := p) (roots := roots) (fun h => by rw [h.2] at hrt; cases hrt)
    replace hcl := Lib.hid hcl; replace hend := Lib.hid hend; replace hrt := Lib.hid hrt
    go_wp2_with (go_at_call 55; (with_reducible refine (hcl.out _ (Below.refl _ _)).mono ?_); rintro en w8 ⟨rfl, hbk⟩; have hw8 := hw7.trans (hbk.mono hs7); have E8 := E7.below hbk; have EW8 := EW7.below hbk; obtain ⟨e8_0, e8_1⟩ := E8.box2; have hsE8 := World.block_lt_of_cell? _ _ e8_0; dsimp only at hsE8; have e8f_0 := EW8.frz 0 (by omega); have e8f_1 := EW8.frz 1 (by omega))
    have q := stored2 (x := .slice none 0 0) (y := .slice none 0 0) e8_0 e8_1
    refine bodyPost_ret (v := .tuple #[.agg #[.slice none 0 0, .slice none 0 0], .int .i64 (-1)]) (by simp [results, Try.results22, go_sem, q.1, q.2]) rfl ?_
    exact hend.out _ (below_set2 hw8 (by omega) _ _)
  · have H := heapIn_of hok.out hrt
    rw [hrt] at hcl
    have hps : psOk p roots := ⟨hok.out, hrt⟩
    have c5' := c5.out H
    replace hcl := Lib.hid hcl; replace hrt := Lib.hid hrt; replace H := Lib.hid H; replace c5' := Lib.hid c5'; replace hps := Lib.hid hps
    clear c5
    go_upto_region 6 with (go_at_call 55; (with_reducible refine (hcl.out _ (Below.refl _ _)).mono ?_); rintro en w8 ⟨rfl, hbk⟩; have hw8 := hw7.trans (hbk.mono hs7); have E8 := E7.below hbk; have EW8 := EW7.below hbk; have B8 := B7.below hbk; have F8 := F7.below hbk; have hM8 : Hid (Met w8 g n p.free) := hM7.out.below hbk; have hs8 := hbk.size; obtain ⟨b8_0, b8_1⟩ := B8.box2; have hsB8 := World.block_lt_of_cell? _ _ b8_0; dsimp only at hsB8)
    go_upto_region 7 with (go_at_call 58; (with_reducible refine (c5'.out _ hw8).mono ?_); rintro en w9 ⟨v0, v1, rfl, -, OA, BL, hbk⟩; have hw9 := hw8.trans (hbk.mono hw8.size); have E9 := E8.below hbk; have EW9 := EW8.below hbk; have B9 := B8.below hbk; have F9 := F8.below hbk; have hM9 : Hid (Met w9 g n p.free) := hM8.out.below hbk; have hs9 := hbk.size; obtain ⟨b9_0, b9_1⟩ := B9.box2; have hsB9 := World.block_lt_of_cell? _ _ b9_0; dsimp only at hsB9)
    have hlv : (copiedP p.cells roots).2.length = n := BL.inv.len.trans hn
    obtain ⟨aa, ac, rfl, la, ma, ha⟩ := OA.sl flatInt
    rw [hlv] at la ⊢
    obtain ⟨at_, hat_⟩ : ∃ l, l = (copiedP p.cells roots).2 := ⟨_, rfl⟩
    rw [← hat_] at ha hlv
    have hlvh : Hid (n = at_.length) := hlv.symm
    replace ha := Lib.hid ha
    have hLv : Hid (psLive p roots = at_.map fun x => decide (0 ≤ x)) := by show _ = _; rw [hat_]; rfl
    clear OA BL hlv hat_ b8_0 b8_1 hsB8 E8 EW8 B8 F8 hM8 B7 E7 EW7 F7 hM7 c5' hcl H
    replace c4 := c4.out
    obtain ⟨lv, hlvd⟩ : ∃ l, l = psLive p roots := ⟨_, rfl⟩
    rw [← hlvd] at hLv
    have hyes := @ps_yes w (p := p) (roots := roots) (h := hps.out)
    rw [← hlvd] at hyes
    obtain ⟨i0, hi0, hz0, hz1, hz2⟩ := info_parts info_IntS
    have J := Lib.hid hi0; have J0 := Lib.hid hz0; have J1 := Lib.hid hz1; have J2 := Lib.hid hz2
    clear hi0 hz0 hz1 hz2
    have hnh := Lib.hid hn
    replace c4 := Lib.hid c4; replace hyes := Lib.hid hyes
    clear hlvd
    go_upto_region 8 with (go_at_call 41; (with_reducible refine (c4.out _ hw9).mono ?_); rintro en w10 ⟨q0, q1, rfl, OP, hbk⟩; obtain ⟨xa, xc, rfl⟩ := OP.cells.form; obtain ⟨ya, yc, rfl⟩ := OP.free.form; have hw10 := hw9.trans (hbk.mono hw9.size); have hb10 : Below w9.heap.size w9 w10 := hbk; have hs10 := hbk.size)

    obtain ⟨w11, hW11⟩ : ∃ W, W = w10.alloc (.cells #[.slice xa n xc, .slice ya p.free.length yc] 26) := ⟨_, rfl⟩
    rw [← hW11]
    rw [hnh.out] at OP
    have S11 : SwSt w9.heap.size w11 w10.heap.size p := by rw [hW11]; exact SwSt.made OP hs10
    have hb11 : Below w9.heap.size w9 w11 := hb10.trans (by rw [hW11]; go_grown)
    clear hW11 OP hw10 hb10 hbk
    generalize w10.heap.size = bO at *
    go_wp2_with fail
    go_loopw [34, 10] (fun i a wr => ∃ k : Nat, k ≤ n ∧ i = .int .i64 k ∧ a = .int .i64 (swp p lv k).2 ∧ Below w9.heap.size w9 wr ∧ SwSt w9.heap.size wr bO (swp p lv k).1) (fun i _ _ => n - (intOf i).toNat)
    case atStart => exact ⟨0, by omega, rfl, rfl, hb11, S11⟩
    case round =>
      clear hb11 S11
      obtain ⟨k, hk, rfl, rfl, hwr, S⟩ := hrel
      have hsr := hwr.size
      have hsl := swp_len p lv k
      by_cases hlt : k < n
      · obtain ⟨b1, o1, x, s1, _, rfl, P1, ⟨rfl, hx64⟩, r1⟩ := (ha.out.below IntR.good hwr).get hlvh hlt
        rw [Nat.mul_one] at r1
        have R0 := r1.cells1
        have hlk : lv[k]? = some (decide (0 ≤ x)) := by rw [hLv.out, List.getElem?_map, P1.out]; rfl
        have fr_0 := (F9.below hwr).box1
        have hMk := ((hM9.out.below hwr) k hlt).1
        clear r1 hx64
        by_cases hneg : x < 0
        · have d1 : decide (x < 0) = true := decide_eq_true hneg
          rw [show decide (0 ≤ x) = false from decide_eq_false (by omega)] at hlk
          cases hfr : p.free.contains (k : Int)
          · have he := Lib.hid (swp_yes hlk hfr)
            rw [hfr] at hMk
            generalize (swp p lv k).2 = cn at *
            generalize hq : (swp p lv k).1 = q at *
            obtain ⟨v0, v1, RO, OP, hb0, hb1⟩ := S.ex
            have hqn : q.cells.length = n := hsl.1.trans hnh.out
            have OPc := OP.cells.1
            rw [hqn] at OPc
            obtain ⟨gc, cc, rfl, hgc1, hgc2, hcc, hccm, -, hcW⟩ := own_cells OPc (by omega)
            have OPf := OP.free
            obtain ⟨oa, oc, rfl⟩ := OPf.form
            have hA : Arr wr gc (n * 9) := fun t ht => by simpa using hcW t ht
            have hap : ∀ g, (Value.slice oa q.free.length oc).ownBlock = some g → g ≠ gc := fun g hg e => OP.apart gc rfl (by rw [← e]; exact hg)
            have hlob := S.lo_
            have WO := S.wr
            obtain ⟨q_0, q_1⟩ := RO.box2
            have qf_1 := WO.frz 1 (by omega)
            have hbO : bO < wr.heap.size := World.block_lt_of_cell? _ _ q_0
            have hfl : q.free.length ≤ 1048576 + 1048576 := by have := hsl.2.1; omega
            have hcl2 : cn ≤ k := hsl.2.2
            obtain ⟨x0, k0, f0⟩ := hA (k * 9) (by omega); obtain ⟨x1, k1, f1⟩ := hA (k * 9 + 1) (by omega); obtain ⟨x2, k2, f2⟩ := hA (k * 9 + 2) (by omega); obtain ⟨x3, k3, f3⟩ := hA (k * 9 + 3) (by omega); obtain ⟨x4, k4, f4⟩ := hA (k * 9 + 4) (by omega); obtain ⟨x5, k5, f5⟩ := hA (k * 9 + 5) (by omega); obtain ⟨x6, k6, f6⟩ := hA (k * 9 + 6) (by omega); obtain ⟨x7, k7, f7⟩ := hA (k * 9 + 7) (by omega); obtain ⟨x8, k8, f8⟩ := hA (k * 9 + 8) (by omega)
            replace S := Lib.hid S; replace hfr := Lib.hid hfr; replace hlk := Lib.hid hlk; replace hsl := Lib.hid hsl; replace hq := Lib.hid hq
            replace hb0 := Lib.hid hb0; replace hb1 := Lib.hid hb1; replace hap := Lib.hid hap; replace OP := Lib.hid OP; replace OPf := Lib.hid OPf; replace OPc := Lib.hid OPc; replace hqn := Lib.hid hqn
            clear hA hcW
            have hgb : gc ≠ bO := hb0.out gc rfl
            go_upto_region 14 with fail
            obtain ⟨w1, hW1⟩ : ∃ W, W = storeRow wr gc (k * 9) (cellRow zeroC) := ⟨_, rfl⟩
            change Code.wp _ _ _ _ (storeRow wr gc (k * 9) (cellRow zeroC))
            rw [← hW1]
            have K1 : Kept (· = gc) wr w1 := by rw [hW1]; exact kept_storeRow gc _ _ (Kept.refl _ _)
            have hz1 : wr.heap.size ≤ w1.heap.size := by rw [hW1]; exact (below_storeRow gc _ _ _).size
            have hbw1 : Below w9.heap.size w9 w1 := by rw [hW1]; exact hwr.trans ((below_storeRow gc _ _ _).mono (by omega))
            have OC1 : OwnCells w9.heap.size w1 (.slice (some ⟨gc, 0, none⟩) n cc) (q.cells.set k zeroC) := by
              refine ⟨?_, fun y hy => ?_⟩
              · have := own_store (v := .slice none 0 0) flatCell (k := k) (y := zeroC) OPc.out (by rw [hqn.out]; exact hlt)
                rw [hW1, List.length_set, hqn.out]
                exact this
              · rcases List.mem_or_eq_of_mem_set hy with h | rfl
                · exact OP.out.cells.2 y h
                · exact zeroC_wf
            have OF1 : Hid (OwnInts w9.heap.size w1 (.slice oa q.free.length oc) q.free) := OPf.out.kept K1 (fun g hg => hap.out g hg)
            have RO1 := RO.kept K1 hgb.symm
            have WO1 := WO.kept K1 hgb.symm
            replace OC1 := Lib.hid OC1
            clear hW1 K1 k0 k1 k2 k3 k4 k5 k6 k7 k8 f0 f1 f2 f3 f4 f5 f6 f7 f8 q_0 q_1 qf_1 RO WO fr_0 hMk R0
            obtain ⟨q_0, q_1⟩ := RO1.box2
            generalize hfn : q.free.length = m2 at *
            replace hfn := Lib.hid hfn
            go_wp2_with (at_builtin; refine wpList_append_lies _ rfl _ _ _ rfl w9.heap.size 3 i0 _ 1 8 Try.underlying24 J.out J0.out J1.out J2.out rfl (by omega) (.slice oa m2 oc) m2 (rowsOf intRow q.free) rfl (own_below (hfn.out ▸ OF1.out.1) (by go_grown)) ⟨w1.heap.size, 0, none⟩ 1 1 [.int .i64 (k : Int)] rfl rfl (World.news_of_block (cs := #[.int .i64 (k : Int)]) (t := 3) (fr := (0, 0)) (heap_alloc_new' _ _ _ (by simp))) (by intro u hu; simp at hu; subst hu; rfl) (by omega) (by unfold maxLen; omega) (by omega) (by simp; omega) _ rfl ?_; intro g' cap w3 hown hgrow hat hlt3; have hk3 := kept_of hgrow (w := w1) (by go_grown); have hz3 := hgrow.size; (simp only [World.size_alloc] at hz3 hat); have RO3 := RO1.kept hk3 (fun e => (hb1.out _ e.symm) rfl); have WO3 := WO1.kept hk3 (fun e => (hb1.out _ e.symm) rfl); obtain ⟨q3_0, q3_1⟩ := RO3.box2; have f3_1 := WO3.frz 1 (by omega))
            go_roundw
            case rel =>
              have hbA : gc < w1.heap.size := by omega
              have K4 : Kept (· = bO) w3 (w3.setCell ⟨bO, 1, none⟩ (.slice (some ⟨g', 0, none⟩) (m2 + 1) cap)) := Kept.set (S := (· = bO)) (p := ⟨bO, 1, none⟩) (Kept.refl _ _) rfl _
              have hB3 : Below w9.heap.size w9 w3 := below_grown2 (wr := w1) hgrow (by go_grown) hbw1 hbw1.size (hfn.out ▸ OF1.out.1)
              have hgg : g' ≠ gc ∧ g' ≠ bO := by
                rcases hat with h | h
                · exact ⟨hap.out g' h, hb1.out g' h⟩
                · constructor <;> omega
              have hlC : (q.cells.set k zeroC).length = n := by rw [List.length_set]; exact hqn.out
              have hlF : (q.free ++ [(k : Int)]).length = m2 + 1 := by rw [List.length_append, hfn.out]; rfl
              have OC3 := OC1.out.kept hk3 (fun q hq e => by
                obtain rfl : gc = q := by simpa [Value.ownBlock] using hq
                exact (hap.out _ e.symm) rfl)
              have OF3 : OwnInts w9.heap.size w3 (.slice (some ⟨g', 0, none⟩) (m2 + 1) cap) (q.free ++ [(k : Int)]) := ⟨by rw [hlF, rowsOf_append, rowsOf_one]; exact hown, fun y hy => by
                rcases List.mem_append.1 hy with h | h
                · exact OF1.out.2 y h
                · simp at h; subst h; constructor <;> omega⟩
              have q4 := stored2' (y := .slice (some ⟨g', 0, none⟩) (m2 + 1) cap) q3_0 q3_1
              have S4 : SwSt w9.heap.size (w3.setCell ⟨bO, 1, none⟩ (.slice (some ⟨g', 0, none⟩) (m2 + 1) cap)) bO ⟨q.cells.set k zeroC, q.free ++ [(k : Int)]⟩ := by
                refine ⟨⟨_, _, RowAt.of2 q4.1 q4.2, ⟨OC3.kept K4 (fun q hq e => ?_), OF3.kept K4 (fun q hq e => ?_), fun q h1 h2 => ?_⟩, hb0.out, fun q hq => ?_⟩, WO3.set 1 _, hlob⟩
                · obtain rfl : gc = q := by simpa [Value.ownBlock] using hq
                  exact hgb e
                · obtain rfl : g' = q := by simpa [Value.ownBlock] using hq
                  exact hgg.2 e
                · obtain rfl : gc = q := by simpa [Value.ownBlock] using h1
                  exact hgg.1 (by simpa [Value.ownBlock] using h2)
                · obtain rfl : g' = q := by simpa [Value.ownBlock] using hq
                  exact hgg.2
              exact ⟨k + 1, by omega, by go_num, by rw [he.out]; first | rfl | go_num, hB3.setCell (p := ⟨bO, 1, none⟩) hlob _, by rw [he.out]; exact S4⟩
            case measure => simp [intOf]; omega
          · have he := Lib.hid (swp_no (p := p) (lv := lv) (k := k) (fun h => by rw [hfr] at h; exact absurd h.2 (by simp)))
            rw [hfr] at hMk
            generalize hcn : (swp p lv k).2 = cn at *
            generalize hq : (swp p lv k).1 = q at *
            replace S := Lib.hid S; replace hfr := Lib.hid hfr; replace hlk := Lib.hid hlk; replace hsl := Lib.hid hsl; replace hcn := Lib.hid hcn; replace hq := Lib.hid hq
            go_wp2_with fail
            go_roundw
            case rel => exact ⟨k + 1, by omega, by go_num, by rw [he.out, hcn.out], hwr, by rw [he.out, hq.out]; exact S.out⟩
            case measure => simp [intOf]; omega
        · have d1 : decide (x < 0) = false := decide_eq_false hneg
          rw [show decide (0 ≤ x) = true from decide_eq_true (by omega)] at hlk
          have he := Lib.hid (swp_no (p := p) (lv := lv) (k := k) (fun h => by rw [hlk] at h; exact absurd h.1 (by simp)))
          generalize hcn : (swp p lv k).2 = cn at *
          generalize hq : (swp p lv k).1 = q at *
          replace S := Lib.hid S; replace hlk := Lib.hid hlk; replace hsl := Lib.hid hsl; replace hcn := Lib.hid hcn; replace hq := Lib.hid hq
          go_wp2_with fail
          go_roundw
          case rel => exact ⟨k + 1, by omega, by go_num, by rw [he.out, hcn.out], hwr, by rw [he.out, hq.out]; exact S.out⟩
          case measure => simp [intOf]; omega
      · obtain rfl : n = k := by omega
        obtain ⟨v0, v1, RO, OP, hb0, hb1⟩ := S.ex
        have hlob := S.lo_
        obtain ⟨xa, xc, rfl⟩ := OP.cells.form; obtain ⟨ya, yc, rfl⟩ := OP.free.form
        obtain ⟨q_0, q_1⟩ := RO.box2
        have E := E9.below hwr; have EW := EW9.below hwr
        have ef_0 := EW.frz 0 (by omega); have ef_1 := EW.frz 1 (by omega); obtain ⟨e_0, e_1⟩ := E.box2; have hsE := World.block_lt_of_cell? _ _ e_0; dsimp only at hsE
        have hs89 := hw8.size
        have hsE9 := World.block_lt_of_cell? _ _ E9.box2.1; dsimp only at hsE9
        have hbO : bO < wr.heap.size := World.block_lt_of_cell? _ _ q_0
        have hz := fun W => hyes.out W n (.slice xa (swp p lv n).1.cells.length xc) (.slice ya (swp p lv n).1.free.length yc) hnh.out.symm
        generalize hcn : (swp p lv n).2 = cn at *
        generalize hq : (swp p lv n).1 = q at *
        clear hsl
        replace OP := Lib.hid OP; replace RO := Lib.hid RO; replace hz := Lib.hid hz; replace hb0 := Lib.hid hb0; replace hb1 := Lib.hid hb1; replace S := Lib.hid S
        go_wp2_with fail
        have q2 := stored2 (x := .slice xa q.cells.length xc) (y := .slice ya q.free.length yc) e_0 e_1
        refine bodyPost_ret (v := .tuple #[.agg #[.slice xa q.cells.length xc, .slice ya q.free.length yc], .int .i64 (cn : Int)]) (by simp [results, Try.results22, go_sem, q2.1, q2.2]) rfl ?_
        refine hz.out _ (OwnPool.kept (S := (· = w.heap.size + 1)) (OP.out.mono (by omega)) (Kept.set (S := (· = w.heap.size + 1)) (p := ⟨w.heap.size + 1, 1, none⟩) (Kept.set (S := (· = w.heap.size + 1)) (p := ⟨w.heap.size + 1, 0, none⟩) (Kept.refl _ _) rfl _) rfl _) (fun g hg e => ?_) (fun g hg e => ?_)) (below_set2 (hw9.trans (hwr.mono hw9.size)) (by omega) _ _)
        · have := OP.out.cells.base g hg; have := hsE9; omega
        · have := OP.out.free.base g hg; omega

end Go.Proofs.Ytajbgkpjmgmdhaa
