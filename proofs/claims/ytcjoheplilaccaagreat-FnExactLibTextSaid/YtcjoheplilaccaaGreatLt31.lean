/- Parts of the proof, merged: Node2. -/
import Derived.Shelf.Abstract
import Derived.Deep.RegionLaw
import Derived.Test.YtcjoheplilaccaaGreatLt30
/- A program's node: the program's test. -/
namespace Go.Proofs.YtcjoheplilaccaaGreat
open Go.RowKit
set_option linter.unusedVariables false
set_option linter.unusedSimpArgs false
attribute [local go_sem] Ext.cell

set_option maxRecDepth 100000 in
set_option maxHeartbeats 16000000 in
theorem nodeOkN_c (x : GNode) (hx : x.wf) (N : List GNode) (hN : N.length ≤ 1152921504606846976) (tv : Value) (na : Option Addr) (nc : Nat) (u0 u1 : Value) (lo1 lo2 : Nat) (w : World)
    (h0 : Sl GNode.R 6 lo1 w (.slice na N.length nc) N) (hk : Sl IntR 1 lo2 w u0 x.kids) (hp : ∃ pa pc, u1 = .slice pa x.pats.length pc) (hpl : x.pats.length ≤ 1152921504606846976) (hin : ∀ k ∈ x.kids, 0 ≤ k ∧ k < (N.length : Int)) :
    Calls Tryz.prog 107 #[.agg #[tv, .slice na N.length nc], .agg #[.int .i64 x.kind, .int .i64 x.at_, .int .i64 x.n, .string x.s, u0, u1], .func (.func 86) #[] #[]] w fun e w' => e = .returned (.bool (nodOk N x)) ∧ Below w.heap.size w w' := by
  obtain ⟨kd, at_, nn, s, ks, ps⟩ := x
  obtain ⟨pa, pc, rfl⟩ := hp
  obtain ⟨ka, kc, rfl, kl, km, k0⟩ := hk
  obtain ⟨hxk, hxa, hxn, hss⟩ := hx
  dsimp only at *
  have hres : nodOk N ⟨kd, at_, nn, s, ks, ps⟩ = (!nodBad ⟨kd, at_, nn, s, ks, ps⟩ && nodBody N ⟨kd, at_, nn, s, ks, ps⟩) := rfl
  have hB0 : nodBad ⟨kd, at_, nn, s, ks, ps⟩ = ((decide (at_ < 0) || (decide (0 ≤ arP kd) && ((ks.length : Int) != arP kd))) || ((kd != 13 && decide (0 < (ps.length : Int))) || ((kd != 1 && kd != 3) && (nn != 0)))) := rfl
  generalize nodOk N ⟨kd, at_, nn, s, ks, ps⟩ = res at *
  generalize nodBad ⟨kd, at_, nn, s, ks, ps⟩ = bad at *
  have hfk : 0 < ks.length → ∃ (j : Nat) (b o b2 o2 : Nat) (y : Int), ka = some ⟨b, o, none⟩ ∧ na = some ⟨b2, o2, none⟩ ∧ w.cell? ⟨b, o, none⟩ = some (.int .i64 (j : Int)) ∧ j < N.length ∧ w.cell? ⟨b2, o2 + j * 6, none⟩ = some (.int .i64 y) ∧ firstK N ks = y := fun h => by
    obtain ⟨b1, o1, z, r, _, rfl, P1, ⟨rfl, _⟩, r1⟩ := k0.get (Lib.hid rfl) h
    obtain ⟨hz0, hz1⟩ := hin z (List.mem_of_getElem? P1.out)
    obtain ⟨j, rfl⟩ : ∃ j : Nat, z = j := ⟨z.toNat, by omega⟩
    obtain ⟨na', nc', he, _, _, n0⟩ := h0
    obtain ⟨rfl, rfl⟩ : na' = na ∧ nc' = nc := by injection he with a b c; exact ⟨a.symm, c.symm⟩
    obtain ⟨b2, o2, y, r', _, rfl, P2, ⟨v0, v1, rfl, _⟩, r2⟩ := n0.get (Lib.hid rfl) (show j < N.length by omega)
    refine ⟨j, b1, o1, b2, o2, y.kind, rfl, rfl, by simpa using r1 0 _ rfl, by omega, by simpa using r2 0 _ rfl, ?_⟩
    have hks : ks = (j : Int) :: ks.drop 1 := by
      have := P1.out
      cases ks with
      | nil => simp at h
      | cons a l => simp at this; subst this; rfl
    rw [hks]
    show nkind N j = _
    unfold nkind
    rw [if_pos (by omega), Int.toNat_natCast, P2.out]; rfl
  clear hin h0 k0
  obtain ⟨m, hm⟩ : ∃ m, m = ks.length := ⟨_, rfl⟩
  obtain ⟨n, hn⟩ : ∃ n, n = N.length := ⟨_, rfl⟩
  obtain ⟨pm, hpm⟩ : ∃ pm, pm = ps.length := ⟨_, rfl⟩
  have hBody : nodBody N ⟨kd, at_, nn, s, ks, ps⟩ = 
    if kd = 1 then decide (0 ≤ nn ∧ nn ≤ 4611686018427387903) && s.toList.isEmpty
    else if kd = 2 then true
    else if kd = 3 ∨ kd = 5 ∨ kd = 7 ∨ kd = 15 then (nameOk s && nn == 0)
    else if kd = 8 then (nameOk s && nn == 0) && firstK N ks == 5
    else if kd = 10 then primOk s
    else if kd = 4 then conShape s ks.length ((ks.length : Int) == 1 && firstK N ks == 11)
    else if kd = 6 ∨ kd = 9 ∨ kd = 11 ∨ kd = 12 ∨ kd = 14 ∨ kd = 16 ∨ kd = 17 ∨ kd = 18 ∨ kd = 19 then s.toList.isEmpty
    else if kd = 13 then s.toList.isEmpty && (decide (1 ≤ (ps.length : Int)) && (ks.length : Int) == (ps.length : Int) + 1)
    else false := rfl
  generalize nodBody N ⟨kd, at_, nn, s, ks, ps⟩ = body at *
  rw [← hm, ← hpm] at hBody
  rw [← hm, ← hpm] at hB0
  rw [← hm, ← hn] at hfk
  rw [← hm] at kl
  rw [← hm, ← hn, ← hpm]
  rw [← hn] at hN
  rw [← hpm] at hpl
  have cA := fun W => arity_c kd W
  have cN := fun W => nameN_c kd at_ nn s (.slice ka m kc) (.slice pa pm pc) hss W
  have cS := fun p W => conShape_c s m p hss W
  generalize firstK N ks = fk at *
  obtain ⟨ar, har⟩ : ∃ ar, arP kd = ar := ⟨_, rfl⟩
  have har5 : kd = 8 → 0 ≤ ar ∧ ar = 2 := fun h => by subst h; rw [← har]; exact ⟨by decide, rfl⟩
  rw [har] at hB0 cA
  clear hm hn hpm
  replace hB0 := Lib.hid hB0; replace hBody := Lib.hid hBody; replace hres := Lib.hid hres; replace hfk := Lib.hid hfk; replace har := Lib.hid har; replace har5 := Lib.hid har5
  go_enter Tryz.func107, Tryz.ntmps107
  go_upto_region 1 with fail
  have D : RowAt (w.alloc (.cells #[tv, .slice na n nc] 46)) (w.heap.size) 0 [tv, .slice na n nc] := RowAt.box w #[tv, .slice na n nc] 46
  have D := D.below (show Below (w.alloc (.cells #[tv, .slice na n nc] 46)).heap.size (w.alloc (.cells #[tv, .slice na n nc] 46)) ((w.alloc (.cells #[tv, .slice na n nc] 46)).alloc (.cells #[.int .i64 kd, .int .i64 at_, .int .i64 nn, .string s, .slice ka m kc, .slice pa pm pc] 100)) by go_grown)
  have E : RowAt ((w.alloc (.cells #[tv, .slice na n nc] 46)).alloc (.cells #[.int .i64 kd, .int .i64 at_, .int .i64 nn, .string s, .slice ka m kc, .slice pa pm pc] 100)) (w.heap.size + 1) 0 [.int .i64 kd, .int .i64 at_, .int .i64 nn, .string s, .slice ka m kc, .slice pa pm pc] := by have h := RowAt.box (w.alloc (.cells #[tv, .slice na n nc] 46)) #[.int .i64 kd, .int .i64 at_, .int .i64 nn, .string s, .slice ka m kc, .slice pa pm pc] 100; simp only [World.size_alloc] at h; exact h
  have hw : Below w.heap.size w ((w.alloc (.cells #[tv, .slice na n nc] 46)).alloc (.cells #[.int .i64 kd, .int .i64 at_, .int .i64 nn, .string s, .slice ka m kc, .slice pa pm pc] 100)) := by go_grown
  generalize ((w.alloc (.cells #[tv, .slice na n nc] 46)).alloc (.cells #[.int .i64 kd, .int .i64 at_, .int .i64 nn, .string s, .slice ka m kc, .slice pa pm pc] 100)) = w0 at *
  have hw1 : Below w.heap.size w w0 := hw
  obtain ⟨d_0, d_1⟩ := D.box2; have hsD := World.block_lt_of_cell? _ _ d_0; dsimp only at hsD; obtain ⟨e_0, e_1, e_2, e_3, e_4, e_5⟩ := E.box6; have hsE := World.block_lt_of_cell? _ _ e_0; dsimp only at hsE
  go_upto_region 3 with (go_at_call 121; ((with_reducible refine (cA _).mono ?_); rintro e w1 ⟨rfl, rfl⟩))
  go_cut [52] (fun sx wx => sx = .bool bad ∧ wx = w0)
  case first =>
    cases a1 : decide (at_ < 0)
    · cases a2 : decide (0 ≤ ar)
      · cases a4 : (kd != 13)
        · cases a6 : (kd != 1)
          · (go_wp2_with fail; go_meet; refine ⟨?_, rfl⟩; rw [hB0.out]; simp [*]; done)
          · cases a7 : (kd != 3)
            · (go_wp2_with fail; go_meet; refine ⟨?_, rfl⟩; rw [hB0.out]; simp [*]; done)
            · cases a8 : (nn != 0)
              · (go_wp2_with fail; go_meet; refine ⟨?_, rfl⟩; rw [hB0.out]; simp [*]; done)
              · (go_wp2_with fail; go_meet; refine ⟨?_, rfl⟩; rw [hB0.out]; simp [*]; done)
        · cases a5 : decide (0 < (pm : Int))
          · have a5' : decide (0 < pm) = false := by rw [← a5, decide_eq_decide]; omega
            cases a6 : (kd != 1)
            · (go_wp2_with fail; go_meet; refine ⟨?_, rfl⟩; rw [hB0.out]; simp [*]; done)
            · cases a7 : (kd != 3)
              · (go_wp2_with fail; go_meet; refine ⟨?_, rfl⟩; rw [hB0.out]; simp [*]; done)
              · cases a8 : (nn != 0)
                · (go_wp2_with fail; go_meet; refine ⟨?_, rfl⟩; rw [hB0.out]; simp [*]; done)
                · (go_wp2_with fail; go_meet; refine ⟨?_, rfl⟩; rw [hB0.out]; simp [*]; done)
          · have a5' : decide (0 < pm) = true := by rw [← a5, decide_eq_decide]; omega
            (go_wp2_with fail; go_meet; refine ⟨?_, rfl⟩; rw [hB0.out]; simp [*]; done)
      · cases a3 : ((m : Int) != ar)
        · cases a4 : (kd != 13)
          · cases a6 : (kd != 1)
            · (go_wp2_with fail; go_meet; refine ⟨?_, rfl⟩; rw [hB0.out]; simp [*]; done)
            · cases a7 : (kd != 3)
              · (go_wp2_with fail; go_meet; refine ⟨?_, rfl⟩; rw [hB0.out]; simp [*]; done)
              · cases a8 : (nn != 0)
                · (go_wp2_with fail; go_meet; refine ⟨?_, rfl⟩; rw [hB0.out]; simp [*]; done)
                · (go_wp2_with fail; go_meet; refine ⟨?_, rfl⟩; rw [hB0.out]; simp [*]; done)
          · cases a5 : decide (0 < (pm : Int))
            · have a5' : decide (0 < pm) = false := by rw [← a5, decide_eq_decide]; omega
              cases a6 : (kd != 1)
              · (go_wp2_with fail; go_meet; refine ⟨?_, rfl⟩; rw [hB0.out]; simp [*]; done)
              · cases a7 : (kd != 3)
                · (go_wp2_with fail; go_meet; refine ⟨?_, rfl⟩; rw [hB0.out]; simp [*]; done)
                · cases a8 : (nn != 0)
                  · (go_wp2_with fail; go_meet; refine ⟨?_, rfl⟩; rw [hB0.out]; simp [*]; done)
                  · (go_wp2_with fail; go_meet; refine ⟨?_, rfl⟩; rw [hB0.out]; simp [*]; done)
            · have a5' : decide (0 < pm) = true := by rw [← a5, decide_eq_decide]; omega
              (go_wp2_with fail; go_meet; refine ⟨?_, rfl⟩; rw [hB0.out]; simp [*]; done)
        · (go_wp2_with fail; go_meet; refine ⟨?_, rfl⟩; rw [hB0.out]; simp [*]; done)
    · (go_wp2_with fail; go_meet; refine ⟨?_, rfl⟩; rw [hB0.out]; simp [*]; done)
  obtain ⟨rfl, rfl⟩ := hcut
  have hres := hres.out
  cases bad
  rotate_left
  · replace hres : res = false := hres
    subst hres
    go_wp2_with fail
    go_returns
    exact ⟨rfl, hw⟩
  replace hres : res = body := hres
  replace hres := Lib.hid hres
  rcases kind19 kd with rfl | rfl | rfl | rfl | rfl | rfl | rfl | rfl | rfl | rfl | rfl | rfl | rfl | rfl | rfl | rfl | rfl | rfl | rfl | hk
  · replace hBody : body = (decide (0 ≤ nn ∧ nn ≤ 4611686018427387903) && s.toList.isEmpty) := hBody.out
    have cW := fun W => within_c nn 0 4611686018427387903 W
    generalize decide (0 ≤ nn ∧ nn ≤ 4611686018427387903) = q at *
    subst hBody
    cases q
    all_goals go_wp2_with (go_at_call 59; ((with_reducible refine (cW _).mono ?_); rintro e w1 ⟨rfl, rfl⟩))
    all_goals go_returns
    all_goals exact ⟨by rw [hres.out]; rfl, hw⟩
  · replace hBody : body = true := hBody.out
    subst hBody
    go_wp2_with fail; go_returns; exact ⟨by rw [hres.out]; rfl, hw⟩
  · replace hBody : body = (nameOk s && nn == 0) := hBody.out
    rw [← hBody] at cN
    clear hBody
    go_wp2_with (refine (cN _).mono ?_; rintro e w1 ⟨rfl, hb⟩; have hw := hw.trans (hb.mono hw.size); have D := D.below hb; obtain ⟨d_0, d_1⟩ := D.box2; have hsD := World.block_lt_of_cell? _ _ d_0; dsimp only at hsD; have E := E.below hb; obtain ⟨e_0, e_1, e_2, e_3, e_4, e_5⟩ := E.box6; have hsE := World.block_lt_of_cell? _ _ e_0; dsimp only at hsE; clear hb)
    go_returns
    exact ⟨by rw [hres.out]; rfl, hw⟩
  · replace hBody : body = conShape s m ((m : Int) == 1 && fk == 11) := hBody.out
    by_cases hm1 : m = 1
    · subst hm1
      obtain ⟨j, b, o, b2, o2, y, rfl, rfl, c1, hj, c2, rfl⟩ := hfk.out (by omega)
      replace c1 := cell_below hw c1
      replace c2 := cell_below hw c2
      have hbb := World.block_lt_of_cell? _ _ c1; dsimp only at hbb
      have hbb2 := World.block_lt_of_cell? _ _ c2; dsimp only at hbb2
      have q1 : decide ((j : Int) < (n : Int)) = true := decide_eq_true (by omega)
      have cS1 := fun W => cS (fk == 11) W
      replace hBody : body = conShape s ((1 : Nat) : Int) (fk == 11) := hBody
      rw [← hBody] at cS1
      clear hfk cS hBody
      go_upto_region 20 with fail
      generalize he5 : (fk == 11) = e5 at *
      (refine wp_region_ext_lit (by kernel_rfl) (by kernel_rfl) ?_; (repeat (any_goals (first | go_big_quiet_step ((first | (go_at_call 123; exact Calls.ext_same (cS1 _)))) | quiet_step ((first | (go_at_call 123; exact Calls.ext_same (cS1 _)))) | (refine wpQuiet_step (fun K hK => ?_); go_simp; split <;> (refine hK _ ?_; clear hK K))))); all_goals (refine wpQuiet_nil ?_; rintro w1 ⟨⟨w2, hb⟩, rfl⟩; have hw := hw.trans (hb.mono hw.size); have D := D.below hb; obtain ⟨d_0, d_1⟩ := D.box2; have hsD := World.block_lt_of_cell? _ _ d_0; dsimp only at hsD; have E := E.below hb; obtain ⟨e_0, e_1, e_2, e_3, e_4, e_5⟩ := E.box6; have hsE := World.block_lt_of_cell? _ _ e_0; dsimp only at hsE; clear hb))
      all_goals go_wp2_with fail
      all_goals go_returns
      all_goals exact ⟨by rw [hres.out]; rfl, hw⟩
    · have e1 : ((m : Int) == 1) = false := by rw [beq_eq_false_iff_ne]; omega
      rw [e1] at hBody
      have cS1 := fun W => cS false W
      replace hBody : body = conShape s m false := hBody
      rw [← hBody] at cS1
      clear hfk cS hBody hm1
      go_upto_region 20 with fail
      (refine wp_region_ext_lit (by kernel_rfl) (by kernel_rfl) ?_; (repeat (any_goals (first | go_big_quiet_step ((first | (go_at_call 123; exact Calls.ext_same (cS1 _)))) | quiet_step ((first | (go_at_call 123; exact Calls.ext_same (cS1 _)))) | (refine wpQuiet_step (fun K hK => ?_); go_simp; split <;> (refine hK _ ?_; clear hK K))))); all_goals (refine wpQuiet_nil ?_; rintro w1 ⟨⟨w2, hb⟩, rfl⟩; have hw := hw.trans (hb.mono hw.size); have D := D.below hb; obtain ⟨d_0, d_1⟩ := D.box2; have hsD := World.block_lt_of_cell? _ _ d_0; dsimp only at hsD; have E := E.below hb; obtain ⟨e_0, e_1, e_2, e_3, e_4, e_5⟩ := E.box6; have hsE := World.block_lt_of_cell? _ _ e_0; dsimp only at hsE; clear hb))
      all_goals go_wp2_with fail
      all_goals go_returns
      all_goals exact ⟨by rw [hres.out]; rfl, hw⟩
  · replace hBody : body = (nameOk s && nn == 0) := hBody.out
    rw [← hBody] at cN
    clear hBody
    go_wp2_with (refine (cN _).mono ?_; rintro e w1 ⟨rfl, hb⟩; have hw := hw.trans (hb.mono hw.size); have D := D.below hb; obtain ⟨d_0, d_1⟩ := D.box2; have hsD := World.block_lt_of_cell? _ _ d_0; dsimp only at hsD; have E := E.below hb; obtain ⟨e_0, e_1, e_2, e_3, e_4, e_5⟩ := E.box6; have hsE := World.block_lt_of_cell? _ _ e_0; dsimp only at hsE; clear hb)
    go_returns
    exact ⟨by rw [hres.out]; rfl, hw⟩
  · replace hBody : body = s.toList.isEmpty := hBody.out
    subst hBody
    go_wp2_with fail; go_returns; exact ⟨by rw [hres.out]; rfl, hw⟩
  · replace hBody : body = (nameOk s && nn == 0) := hBody.out
    rw [← hBody] at cN
    clear hBody
    go_wp2_with (refine (cN _).mono ?_; rintro e w1 ⟨rfl, hb⟩; have hw := hw.trans (hb.mono hw.size); have D := D.below hb; obtain ⟨d_0, d_1⟩ := D.box2; have hsD := World.block_lt_of_cell? _ _ d_0; dsimp only at hsD; have E := E.below hb; obtain ⟨e_0, e_1, e_2, e_3, e_4, e_5⟩ := E.box6; have hsE := World.block_lt_of_cell? _ _ e_0; dsimp only at hsE; clear hb)
    go_returns
    exact ⟨by rw [hres.out]; rfl, hw⟩
  · replace hBody : body = ((nameOk s && nn == 0) && fk == 5) := hBody.out
    obtain ⟨_, har5⟩ := har5.out rfl
    subst har5
    generalize (nameOk s && nn == 0) = q at *
    have hm2 : m = 2 := by have h := hB0.out; simp at h; omega
    subst hm2
    obtain ⟨j, b, o, b2, o2, y, rfl, rfl, c1, hj, c2, rfl⟩ := hfk.out (by omega)
    replace c1 := cell_below hw c1
    replace c2 := cell_below hw c2
    have hbb := World.block_lt_of_cell? _ _ c1; dsimp only at hbb
    have hbb2 := World.block_lt_of_cell? _ _ c2; dsimp only at hbb2
    have q1 : decide ((j : Int) < (n : Int)) = true := decide_eq_true (by omega)
    subst hBody
    clear hfk
    go_upto_region 16 with fail
    cases q <;> cases e5 : (fk == 5)
    all_goals (refine wp_region_ext_lit (by kernel_rfl) (by kernel_rfl) ?_; (repeat (any_goals (first | go_big_quiet_step (fail) | quiet_step (fail) | (refine wpQuiet_step (fun K hK => ?_); go_simp; refine ⟨_, fun a => (Calls.ext (cN _)), ?_⟩; refine hK _ ?_; clear hK K) | (refine wpQuiet_step (fun K hK => ?_); go_simp; split <;> (refine hK _ ?_; clear hK K))))); all_goals (refine wpQuiet_nil ?_; rintro w1 ⟨⟨w2, hb⟩, rfl⟩; have hw := hw.trans (hb.mono hw.size); have D := D.below hb; obtain ⟨d_0, d_1⟩ := D.box2; have hsD := World.block_lt_of_cell? _ _ d_0; dsimp only at hsD; have E := E.below hb; obtain ⟨e_0, e_1, e_2, e_3, e_4, e_5⟩ := E.box6; have hsE := World.block_lt_of_cell? _ _ e_0; dsimp only at hsE; clear hb))
    all_goals go_wp2_with fail
    all_goals go_returns
    all_goals exact ⟨by rw [hres.out, e5]; rfl, hw⟩
  · replace hBody : body = s.toList.isEmpty := hBody.out
    subst hBody
    go_wp2_with fail; go_returns; exact ⟨by rw [hres.out]; rfl, hw⟩
  · replace hBody : body = primOk s := hBody.out
    have cp := fun g W h => containsS_c primB s 0 (.slice (some ⟨g, 0, none⟩) 10 10) W h
    replace cp : ∀ g W, _ → Calls Tryz.prog 18 #[.slice (some ⟨g, 0, none⟩) 10 10, .string s] W fun e w' => e = .returned (.bool (primOk s)) ∧ Below W.heap.size W w' := cp
    rw [← hBody] at cp
    replace cp := Lib.hid cp
    clear hBody
    go_upto_region 18 with fail
    go_region_law ((first | (go_simp; go_at_call 122; ((with_reducible refine (primOps_c _).mono ?_); rintro e w1 ⟨g, rfl, hS, hb⟩; have hw1 := hw.trans (Below.trans (by go_grown) (hb.mono (by go_grown)) : Below w.heap.size wc w1); have e_3' : w1.cell? ⟨w.heap.size + 1, 3, none⟩ = some (.string s) := cell_below hb e_3)) | (go_simp; go_at_call 18; ((with_reducible refine (cp.out _ _ hS).mono ?_); rintro e w3 ⟨rfl, hb3⟩))))
    all_goals go_wp2_with fail
    all_goals go_returns
    all_goals exact ⟨by rw [hres.out]; rfl, hw1.trans (hb3.mono hw1.size)⟩
  · replace hBody : body = s.toList.isEmpty := hBody.out
    subst hBody
    go_wp2_with fail; go_returns; exact ⟨by rw [hres.out]; rfl, hw⟩
  · replace hBody : body = s.toList.isEmpty := hBody.out
    subst hBody
    go_wp2_with fail; go_returns; exact ⟨by rw [hres.out]; rfl, hw⟩
  · replace hBody : body = (s.toList.isEmpty && (decide (1 ≤ (pm : Int)) && (m : Int) == (pm : Int) + 1)) := hBody.out
    have hww : IntKind.i64.wrap ((pm : Int) + 1) = (pm : Int) + 1 := IntWalk.i64_in _ (by omega)
    cases e1 : s.toList.isEmpty <;> cases e2 : decide (1 ≤ (pm : Int)) <;> cases e3 : ((m : Int) == (pm : Int) + 1)
    all_goals have e2' : decide (1 ≤ pm) = decide (1 ≤ (pm : Int)) := by rw [decide_eq_decide]; omega
    all_goals rw [e2] at e2'
    all_goals rw [e1, e2, e3] at hBody
    all_goals clear har5 har hfk
    all_goals subst hBody
    all_goals go_wp2_with fail
    all_goals go_returns
    all_goals exact ⟨by rw [hres.out]; rfl, hw⟩
  · replace hBody : body = s.toList.isEmpty := hBody.out
    subst hBody
    go_wp2_with fail; go_returns; exact ⟨by rw [hres.out]; rfl, hw⟩
  · replace hBody : body = (nameOk s && nn == 0) := hBody.out
    rw [← hBody] at cN
    clear hBody
    go_wp2_with (refine (cN _).mono ?_; rintro e w1 ⟨rfl, hb⟩; have hw := hw.trans (hb.mono hw.size); have D := D.below hb; obtain ⟨d_0, d_1⟩ := D.box2; have hsD := World.block_lt_of_cell? _ _ d_0; dsimp only at hsD; have E := E.below hb; obtain ⟨e_0, e_1, e_2, e_3, e_4, e_5⟩ := E.box6; have hsE := World.block_lt_of_cell? _ _ e_0; dsimp only at hsE; clear hb)
    go_returns
    exact ⟨by rw [hres.out]; rfl, hw⟩
  · replace hBody : body = s.toList.isEmpty := hBody.out
    subst hBody
    go_wp2_with fail; go_returns; exact ⟨by rw [hres.out]; rfl, hw⟩
  · replace hBody : body = s.toList.isEmpty := hBody.out
    subst hBody
    go_wp2_with fail; go_returns; exact ⟨by rw [hres.out]; rfl, hw⟩
  · replace hBody : body = s.toList.isEmpty := hBody.out
    subst hBody
    go_wp2_with fail; go_returns; exact ⟨by rw [hres.out]; rfl, hw⟩
  · replace hBody : body = s.toList.isEmpty := hBody.out
    subst hBody
    go_wp2_with fail; go_returns; exact ⟨by rw [hres.out]; rfl, hw⟩
  · have hj := kindOut hk
    replace hBody : body = false := by
      rw [hBody.out, if_neg (by omega), if_neg (by omega), if_neg (by omega), if_neg (by omega), if_neg (by omega), if_neg (by omega), if_neg (by omega), if_neg (by omega)]
    subst hBody
    have n1 := hj 1 (by omega) (by omega); have n2 := hj 2 (by omega) (by omega); have n3 := hj 3 (by omega) (by omega); have n4 := hj 4 (by omega) (by omega); have n5 := hj 5 (by omega) (by omega); have n6 := hj 6 (by omega) (by omega); have n7 := hj 7 (by omega) (by omega); have n8 := hj 8 (by omega) (by omega); have n9 := hj 9 (by omega) (by omega); have n10 := hj 10 (by omega) (by omega); have n11 := hj 11 (by omega) (by omega); have n12 := hj 12 (by omega) (by omega); have n13 := hj 13 (by omega) (by omega); have n14 := hj 14 (by omega) (by omega); have n15 := hj 15 (by omega) (by omega); have n16 := hj 16 (by omega) (by omega); have n17 := hj 17 (by omega) (by omega); have n18 := hj 18 (by omega) (by omega); have n19 := hj 19 (by omega) (by omega)
    clear hj hk
    go_wp2_with fail; go_returns; exact ⟨by rw [hres.out]; rfl, hw⟩
end Go.Proofs.YtcjoheplilaccaaGreat
