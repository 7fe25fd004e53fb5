/- The law FnPoolSweep: a swept pool has just what one comes to, and it shows what it showed. -/
import Derived.Test.YtajbgkpjmgmdhaaDraw10
import Derived.Test.YtajbgkpjmgmdhaaShB
import Derived.Test.YtajbgkpjmgmdhaaPsAll
namespace Go.Proofs.Ytajbgkpjmgmdhaa
open Go.RowKit
set_option linter.unusedVariables false
set_option linter.unusedSimpArgs false
attribute [local go_sem] Ext.cell

theorem bulk_of' {p : GPool} (hl : p.cells.length ≤ 10) (hs : ∀ c ∈ p.cells, SmallC c) (hf : p.free.length ≤ 8001) : p.bulk ≤ 1048576 := by
  have h1 : ∀ l : List GCell, (∀ c ∈ l, SmallC c) → bulkS GCell.bulk l ≤ (l.length : Int) * 16 := by
    intro l
    induction l with
    | nil => intro _; simp [bulkS]
    | cons c l ih =>
      intro hl
      have h2 := ih (fun c hc => hl c (List.mem_cons_of_mem _ hc))
      obtain ⟨_, h3, h4, h5⟩ := hl c (by simp)
      simp only [bulkS, List.length_cons, List.map_cons, List.sum_cons, GCell.bulk] at h2 ⊢
      omega
  have h2 := h1 p.cells hs
  simp only [GPool.bulk]
  omega
theorem swept_small {p : GPool} {roots : List GVal} (hs : ∀ c ∈ p.cells, SmallC c) : ∀ c ∈ (psPool p roots).cells, SmallC c := by
  unfold psPool
  split
  · have : ∀ k, ∀ c ∈ (swp p (psLive p roots) k).1.cells, SmallC c := by
      intro k
      induction k with
      | zero => exact hs
      | succ k ih =>
        unfold swp
        split
        · intro c hc
          rcases List.mem_or_eq_of_mem_set hc with h | rfl
          · exact ih c h
          · exact ⟨zeroC_wf, by decide, by decide, by decide⟩
        · exact ih
    exact this _
  · intro c hc; cases hc
theorem packed_short {h : List GCell} {roots : List GVal} (hs : ∀ c ∈ h, SmallC c) : Short (packedC h roots) := by
  intro c hc
  unfold packedC at hc
  obtain ⟨x, _, rfl⟩ := List.mem_map.1 hc
  have hm : ∀ (l : List Int) (v : GVal), v.s.size ≤ 5 → (movedP l v).s.size ≤ 5 := fun l v hv => by unfold movedP; split <;> exact hv
  have : SmallC (h.getD x.toNat zeroG) := by
    rw [List.getD_eq_getElem?_getD]
    cases e : h[x.toNat]? with
    | none => exact ⟨zeroC_wf, by decide, by decide, by decide⟩
    | some c => exact hs c (List.mem_of_getElem? e)
  have h1 := hm (copiedP h roots).2 _ this.2.2.1
  have h2 := hm (copiedP h roots).2 _ this.2.2.2
  refine ⟨?_, ?_, ?_⟩
  · show (h.getD x.toNat zeroG).s.size ≤ _; have := this.2.1; omega
  · show (movedP _ _).s.size ≤ _; omega
  · show (movedP _ _).s.size ≤ _; omega
theorem packedV_short {h : List GCell} {roots : List GVal} (hs : ∀ v ∈ roots, SmallV v) : ∀ v ∈ packedV h roots, v.s.size ≤ 1048576 := by
  intro v hv
  unfold packedV at hv
  obtain ⟨x, hx, rfl⟩ := List.mem_map.1 hv
  have := (hs x hx).2
  unfold movedP
  split
  · show x.s.size ≤ _; omega
  · omega
theorem sweptp_bulk {p : GPool} {roots : List GVal} (hl : p.cells.length ≤ 10) (hs : ∀ c ∈ p.cells, SmallC c) (h : psOk p roots) : (psPool p roots).bulk ≤ 1048576 := by
  have h1 := (ps_swept h).ok.1
  have h2 := (poolOk_parts h1).2.1
  have h3 : (psPool p roots).cells.length ≤ 10 := by
    unfold psPool; rw [if_pos h]
    have := (swp_len p (psLive p roots) p.cells.length).1; omega
  exact bulk_of' h3 (swept_small hs) (by omega)
theorem psN_no {p : GPool} {roots : List GVal} (h : ¬ psOk p roots) : psN p roots = -1 ∧ ppB p roots = false ∧ ppC p roots = [] := by
  unfold psN ppB ppC; rw [if_neg h, if_neg h, if_neg h]; exact ⟨rfl, rfl, rfl⟩
theorem psN_yes {p : GPool} {roots : List GVal} (h : psOk p roots) : psN p roots = ((swp p (psLive p roots) p.cells.length).2 : Int) ∧ ppB p roots = true ∧ ppC p roots = packedC p.cells roots ∧ ppV p roots = packedV p.cells roots := by
  unfold psN ppB ppC ppV; rw [if_pos h, if_pos h, if_pos h, if_pos h]; exact ⟨rfl, rfl, rfl, rfl⟩
theorem pp_as {w : World} {p : GPool} {roots : List GVal} {C : List GCell} {V : List GVal} {b : Bool} {f : Nat} {args : Array Value} (h1 : ppC p roots = C) (h2 : ppV p roots = V) (h3 : ppB p roots = b) (h : Calls Try.prog f args w (PpPost w p roots)) :
    Calls Try.prog f args w fun e w' => ∃ v0 v1, e = .returned (.tuple #[v0, v1, .bool b]) ∧ OwnCells w.heap.size w' v0 C ∧ OwnVals w.heap.size w' v1 V ∧ Below w.heap.size w w' := by
  subst h1 h2 h3
  refine h.mono ?_
  rintro e w' ⟨v0, v1, e1, h4, h5, -, h6⟩
  exact ⟨v0, v1, e1, h4, h5, h6⟩

namespace fnPoolSweep
set_option maxRecDepth 100000 in
set_option maxHeartbeats 16000000 in
theorem law (u : Value) (bs : List UInt8) (w : World) (hx : Sl ByteR 1 0 w u bs) :
    Calls Try.prog 5 #[u] w fun en w' => en = .returned (.bool true) ∧ Below w.heap.size w w' := by
  by_cases hlen : bs.length ≤ 1048576
  rotate_left
  · obtain ⟨ua, uc, rfl⟩ := hx.form
    have hd : decide (1048576 < bs.length) = true := decide_eq_true (by omega)
    go_enter Try.func5, Try.ntmps5
    go_wp2_with fail
    go_returns
    exact ⟨rfl, Below.refl _ _⟩
  have hd : decide (1048576 < bs.length) = false := decide_eq_false (by omega)
  have cD := drawPoolSweep_c w u bs hx hlen
  obtain ⟨ua, uc, rfl⟩ := hx.form
  clear hx
  replace cD := Lib.hid cD
  go_enter Try.func5, Try.ntmps5
  go_upto_region 4 with (go_at_call 21; (with_reducible refine (cD.out).mono ?_); rintro e w1 ⟨v0, v1, vr, p, vs, B, rfl, PA, hvs, hvl, hvS, hw⟩; obtain ⟨xa, xc, rfl⟩ := PA.cells.form; obtain ⟨ya, yc, rfl⟩ := PA.free.form; obtain ⟨ra, rc, rfl⟩ := hvs.form)
  obtain ⟨w2, hW2⟩ : ∃ W, W = w1.alloc (.cells #[.slice xa p.cells.length xc, .slice ya p.free.length yc] 26) := ⟨_, rfl⟩
  rw [← hW2]
  have hb2 : Below w1.heap.size w1 w2 := by rw [hW2]; go_grown
  have R2 : RowAt w2 w1.heap.size 0 [.slice xa p.cells.length xc, .slice ya p.free.length yc] := by rw [hW2]; exact RowAt.box w1 #[_, _] _
  have hw2 : Below w.heap.size w w2 := hw.trans (hb2.mono hw.size)
  have P2 := PA.below hb2
  have V2 := hvs.below GVal.good hb2
  clear hW2 hb2 PA hw hvs
  generalize w1.heap.size = bP at *
  have hsz := hw2.size
  obtain ⟨r_0, r_1⟩ := R2.box2
  have hbulk := P2.bulk
  have PR := P2.R
  have cS := fun W (hW : Below w2.heap.size w2 W) => impl_PoolSweep_c p vs _ _ w.heap.size w.heap.size hbulk (by omega) W (GPool.good.below PR hW) (V2.below GVal.good hW)
  have cT := fun W (hW : Below w2.heap.size w2 W) => spec_PoolSweep_c p vs _ _ w.heap.size w.heap.size hbulk (by omega) W (GPool.good.below PR hW) (V2.below GVal.good hW)
  have cP := fun W (hW : Below w2.heap.size w2 W) => impl_PoolPack_c p vs _ _ w.heap.size w.heap.size hbulk (by omega) W (GPool.good.below PR hW) (V2.below GVal.good hW)
  replace cS := Lib.hid cS; replace cT := Lib.hid cT; replace cP := Lib.hid cP; replace PR := Lib.hid PR; replace P2 := Lib.hid P2; replace V2 := Lib.hid V2; replace hvS := Lib.hid hvS
  go_upto_region 5 with (go_at_call 22; (with_reducible refine (cS.out _ (Below.refl _ _)).mono ?_); rintro e w4 ⟨u0, u1, rfl, OP, hb4⟩; obtain ⟨ua', uc', rfl⟩ := OP.cells.form; obtain ⟨ta, tc, rfl⟩ := OP.free.form)
  obtain ⟨w5, hW5⟩ : ∃ W, W = w4.alloc (.cells #[.slice ua' (psPool p vs).cells.length uc', .slice ta (psPool p vs).free.length tc] 26) := ⟨_, rfl⟩
  rw [← hW5]
  have hb5 : Below w4.heap.size w4 w5 := by rw [hW5]; go_grown
  have Q5 : RowAt w5 w4.heap.size 0 [.slice ua' (psPool p vs).cells.length uc', .slice ta (psPool p vs).free.length tc] := by rw [hW5]; exact RowAt.box w4 #[_, _] _
  have OP5 := OP.below hb5
  have hB5 : Below w2.heap.size w2 w5 := hb4.trans (hb5.mono hb4.size)
  have R5 := R2.below hB5
  clear hW5 OP hb5 hb4 r_0 r_1 R2
  generalize w4.heap.size = bQ at *
  obtain ⟨r_0, r_1⟩ := R5.box2
  go_upto_region 6 with (go_at_call 23; (with_reducible refine (cT.out _ hB5).mono ?_); rintro e w6 ⟨u0, u1, rfl, OS, hb6⟩; obtain ⟨va, vc, rfl⟩ := OS.cells.form; obtain ⟨vb, vd, rfl⟩ := OS.free.form)
  obtain ⟨w7, hW7⟩ : ∃ W, W = w6.alloc (.cells #[.slice va (psPool p vs).cells.length vc, .slice vb (psPool p vs).free.length vd] 26) := ⟨_, rfl⟩
  rw [← hW7]
  have hb7 : Below w5.heap.size w5 w7 := hb6.trans (by rw [hW7]; exact Below.alloc (Below.refl _ _) hb6.size _)
  have hB7 : Below w2.heap.size w2 w7 := hB5.trans (hb7.mono hB5.size)
  have R7 := R5.below hb7; have Q7 := Q5.below hb7; have OP7 := OP5.below hb7
  clear hW7 OS hb6 r_0 r_1 R5 Q5 OP5
  obtain ⟨r_0, r_1⟩ := R7.box2
  have hne : (psN p vs != psN p vs) = false := by simp
  by_cases hps : psOk p vs
  rotate_left
  · obtain ⟨e1, e2, e3⟩ := psN_no hps
    have cP' := pp_as e3 rfl e2 (cP.out _ hB7)
    rw [e1] at hne ⊢
    replace cP' := Lib.hid cP'
    have hw7 : Below w.heap.size w w7 := hw2.trans (hB7.mono hsz)
    go_wp2_with (go_at_call 24; (with_reducible refine (cP'.out).mono ?_); rintro e w8 ⟨h0, h1, rfl, OC, OV, hb8⟩; have hw8 := hw7.trans (hb8.mono hw7.size); obtain ⟨ha, hc, rfl⟩ := OC.form; obtain ⟨na, nc, rfl⟩ := OV.form)
    go_returns
    exact ⟨rfl, hw8⟩
  obtain ⟨e1, e2, e3, e4⟩ := psN_yes hps
  have S := ps_swept hps
  obtain ⟨f1, f2, f3, f4⟩ := psN_yes S.ok
  have hK : (swp p (psLive p vs) p.cells.length).2 ≤ 10 := by
    have := (swp_len p (psLive p vs) p.cells.length).2.2; have := P2.out.len; omega
  generalize (swp p (psLive p vs) p.cells.length).2 = K at *
  have hQb := sweptp_bulk P2.out.len P2.out.small hps
  have hw7 : Below w.heap.size w w7 := hw2.trans (hB7.mono hsz)
  have QR := OP7.R
  have cQ := fun W (hW : Below w7.heap.size w7 W) => pp_as (f3.trans S.cells) (f4.trans S.vals) f2 (impl_PoolPack_c (psPool p vs) vs _ _ _ w.heap.size hQb (by omega) W (GPool.good.below QR hW) (V2.out.below GVal.good (hB7.trans (hW.mono hB7.size))))
  have cU := fun W (hW : Below w7.heap.size w7 W) => impl_PoolUsed_c (psPool p vs) _ _ hQb W (GPool.good.below QR hW)
  have cV := fun W (hW : Below w7.heap.size w7 W) => impl_PoolUsed_c p _ _ hbulk W (GPool.good.below PR.out (hB7.trans (hW.mono hB7.size)))
  have cO := fun W (hW : Below w7.heap.size w7 W) => impl_PoolOk_c (psPool p vs) _ _ hQb W (GPool.good.below QR hW)
  have cP' := fun W (hW : Below w7.heap.size w7 W) => pp_as e3 e4 e2 (cP.out W (hB7.trans (hW.mono hB7.size)))
  have hsh : Short (packedC p.cells vs) := packed_short P2.out.small
  have hvsh := packedV_short (h := p.cells) hvS.out
  have hCl : (packedC p.cells vs).length ≤ 4000 := by
    have h1 := S.was; have h2 := P2.out.len
    have : poolUsed p ≤ 10 := by unfold poolUsed; split <;> omega
    omega
  have hVl : (packedV p.cells vs).length = vs.length := by unfold packedV; rw [List.length_map]
  have hcs : ∀ (j : Nat) (v : GVal) (lo : Nat) (u : Value) (W : World), (packedV p.cells vs)[j]? = some v → v.wf → Sl GCell.R 9 lo W u (packedC p.cells vs) → Calls Try.prog 25 #[u, .agg #[.int .i64 v.kind, .int .i64 v.n, .string v.s], .int .i64 5] W fun e w' => e = .returned (.string (showP (packedC p.cells vs) v 5)) ∧ Below W.heap.size W w' := fun j v lo u W hj hvw hu =>
    Show5_c _ v hsh hvw (hvsh v (List.mem_of_getElem? hj)) (by omega) u lo W hu
  simp only [S.used] at cU
  simp only [S.was] at cV
  simp only [S.ok.1] at cO
  rw [e1] at hne ⊢
  generalize packedC p.cells vs = pc at *
  generalize packedV p.cells vs = pv at *
  replace cQ := Lib.hid cQ; replace cU := Lib.hid cU; replace cV := Lib.hid cV; replace cO := Lib.hid cO; replace cP' := Lib.hid cP'; replace hcs := Lib.hid hcs
  have hVl' : pv.length ≤ 101 := by omega
  clear hVl
  clear e1 e2 e3 e4 f1 f2 f3 f4 S hQb QR hsh hvsh cS cT cP cD hbulk
  obtain ⟨q_0, q_1⟩ := Q7.box2
  generalize (psPool p vs).cells.length = nq at *
  generalize (psPool p vs).free.length = mq at *
  have hz7 := hw7.size
  go_upto_region 9 with (go_at_call 24; (with_reducible refine (cP'.out _ (Below.refl _ _)).mono ?_); rintro e w8 ⟨h0, h1, rfl, OC, OV, hb8⟩; obtain ⟨ha, hc, rfl⟩ := OC.form; obtain ⟨na, nc, rfl⟩ := OV.form)
  have R8 := R7.below hb8; have Q8 := Q7.below hb8
  clear r_0 r_1 q_0 q_1 R7 Q7
  obtain ⟨r_0, r_1⟩ := R8.box2
  obtain ⟨q_0, q_1⟩ := Q8.box2
  go_upto_region 12 with (go_at_call 24; (with_reducible refine (cQ.out _ hb8).mono ?_); rintro e w9 ⟨h0, h1, rfl, OC2, OV2, hb9⟩; obtain ⟨ga, gc, rfl⟩ := OC2.form; obtain ⟨ma, mc, rfl⟩ := OV2.form)
  have hb79 : Below w7.heap.size w7 w9 := hb8.trans (hb9.mono hb8.size)
  have R9 := R8.below hb9; have Q9 := Q8.below hb9
  have OC9 := OC.below hb9; have OV9 := OV.below hb9
  clear r_0 r_1 q_0 q_1 R8 Q8 OC OV
  obtain ⟨r_0, r_1⟩ := R9.box2
  obtain ⟨q_0, q_1⟩ := Q9.box2
  have hw9 : Below w.heap.size w w9 := hw7.trans (hb79.mono hz7)
  have hz9 := hb79.size
  obtain ⟨P, hP⟩ : ∃ n, n = pc.length := ⟨_, rfl⟩
  obtain ⟨m, hm⟩ : ∃ n, n = pv.length := ⟨_, rfl⟩
  simp only [← hP, ← hm] at cU cV hCl hVl' ⊢
  replace hP := Lib.hid hP; replace hm := Lib.hid hm
  go_upto_if 90 with (first
      | (go_at_call 12; (with_reducible refine (cU.out _ hb79).mono ?_); rintro e w10 ⟨rfl, hb10⟩; have hb80 := hb79.trans (hb10.mono hb79.size); have R10 := R9.below hb10; have Q10 := Q9.below hb10; obtain ⟨r_0, r_1⟩ := R10.box2)
      | (go_at_call 12; (with_reducible refine (cV.out _ hb80).mono ?_); rintro e w11 ⟨rfl, hb11⟩; have hb90 := hb80.trans (hb11.mono hb80.size); have hb911 := hb10.trans (hb11.mono hb10.size)))
  have R11 := R9.below hb911; have Q11 := Q9.below hb911
  have A := (OC9.below hb911).sl flatCell
  have A2 := (OC2.below hb911).sl flatCell
  have N1 := (OV9.below hb911).sl flatVal
  have N2 := (OV2.below hb911).sl flatVal
  have hw11 : Below w.heap.size w w11 := hw9.trans (hb911.mono (by omega))
  clear R9 Q9 OC9 OV9 OC2 OV2 r_0 r_1 q_0 q_1 R10 Q10 hb10 hb11 hb80 hb79 hw9 cU cV cQ cP' hb911
  rw [← hP.out] at A A2
  replace A := Lib.hid A; replace A2 := Lib.hid A2
  obtain ⟨_, _, eN, _, _, N1⟩ := N1
  obtain ⟨rfl, rfl⟩ : na = _ ∧ nc = _ := by injection eN with e1 e2 e3; exact ⟨e1, e3⟩
  obtain ⟨_, _, eM, _, _, N2⟩ := N2
  obtain ⟨rfl, rfl⟩ : ma = _ ∧ mc = _ := by injection eM with e1 e2 e3; exact ⟨e1, e3⟩
  clear eN eM
  replace N1 := Lib.hid N1; replace N2 := Lib.hid N2
  go_wp2_with fail
  go_loopw [93] (fun i wr => ∃ k : Nat, k ≤ m ∧ i = .int .i64 k ∧ Below w11.heap.size w11 wr) (fun i _ => m - (intOf i).toNat)
  case atStart => exact ⟨0, by omega, rfl, Below.refl _ _⟩
  case round =>
    obtain ⟨k, hk, rfl, hwr⟩ := hrel
    by_cases hlt : k < m
    · obtain ⟨b1, o1, v, s1, _, rfl, P1, ⟨rfl, hvw⟩, r1⟩ := (N1.out.below GVal.good hwr).get hm hlt
      obtain ⟨b2, o2, v', s2, _, rfl, P2, ⟨rfl, -⟩, r2⟩ := (N2.out.below GVal.good hwr).get hm hlt
      obtain rfl : v = v' := Option.some.inj (P1.out.symm.trans P2.out)
      have c1 := fun W (hW : Below wr.heap.size wr W) => hcs.out k v _ _ W P1.out hvw (A.out.below GCell.good (hwr.trans (hW.mono hwr.size)))
      have c2 := fun W (hW : Below wr.heap.size wr W) => hcs.out k v _ _ W P1.out hvw (A2.out.below GCell.good (hwr.trans (hW.mono hwr.size)))
      generalize showP pc v 5 = t at c1 c2
      have hself : (!t.toList == t.toList) = false := by simp
      replace c1 := Lib.hid c1; replace c2 := Lib.hid c2
      obtain ⟨e_0, e_1, e_2⟩ := r1.cells3
      obtain ⟨f_0, f_1, f_2⟩ := r2.cells3
      clear r1 r2 hvw
      have hB1 := World.block_lt_of_cell? _ _ e_0; dsimp only at hB1
      have hB2 := World.block_lt_of_cell? _ _ f_0; dsimp only at hB2
      go_upto_region 17 with fail
      refine wp_region_ext_lit (by kernel_rfl) (by kernel_rfl) ?_
      repeat (any_goals (first | go_big_quiet_step ((first | (go_at_call 25; with_reducible exact Calls.ext (c1.out _ (Subtype.property _))) | (go_at_call 25; with_reducible exact Calls.ext (c2.out _ (Subtype.property _))))) | quiet_step ((first | (go_at_call 25; with_reducible exact Calls.ext (c1.out _ (Subtype.property _))) | (go_at_call 25; with_reducible exact Calls.ext (c2.out _ (Subtype.property _)))))))
      all_goals (refine wpQuiet_nil ?_; rintro w8 ⟨⟨w9', hb⟩, rfl⟩)
      all_goals go_wp2_with fail
      all_goals go_roundw
      all_goals first
        | exact ⟨k + 1, by omega, by go_num, hwr.trans (hb.mono hwr.size)⟩
        | (simp [intOf]; omega)
    · have Q12 := Q11.below hwr
      obtain ⟨q_0, q_1⟩ := Q12.box2
      go_wp2_with (go_at_call 11; (with_reducible refine (cO.out _ (hb90.trans (hwr.mono hb90.size))).mono ?_); rintro e w12 ⟨rfl, hbz⟩; have hw12 := hw11.trans ((hwr.trans (hbz.mono hwr.size)).mono hw11.size))
      go_returns
      exact ⟨rfl, hw12⟩
end fnPoolSweep
end Go.Proofs.Ytajbgkpjmgmdhaa
