/- Parts of the proof, merged: Ri5, Read2, RiR. -/
import Derived.Test.YtpblhonnknmjjaaTx14
/- The program's reader of values: value. -/
namespace Go.Proofs.Ytpblhonnknmjjaa
open Go.RowKit
set_option linter.unusedVariables false
set_option linter.unusedSimpArgs false
attribute [local go_sem] Ext.cell

theorem isAt40 {s : ByteArray} {p : Nat} (h : p < s.size) : isAt (⟨#[40]⟩ : ByteArray).data.toList (fromB s p) = decide (s[p] = 40) := by
  rw [fromB_cons h]
  show isAt [40] (s[p] :: _) = _
  rw [isAt_one]
  by_cases h1 : s[p] = 40
  · rw [h1]; rfl
  · rw [decide_eq_false h1, beq_eq_false_iff_ne]; exact fun e => h1 e.symm
theorem wrd_c (x : UInt8) (W : World) : Calls Try.prog 59 #[.int .u8 (x.toNat : Int)] W fun e w' => e = .returned (.bool (wrdB x)) ∧ W = w' := isWord_c (x.toNat : Int) W
theorem tw_nl (P : UInt8 → Bool) (s : ByteArray) (k : Nat) : (fromB s k).takeWhile P = tw P s k := rfl
set_option maxRecDepth 100000 in
set_option maxHeartbeats 16000000 in
theorem value_c (s : ByteArray) (b : Nat) (hs : s.size ≤ 1048576) : ∀ (f : Nat) (deep : Int), (f : Int) + deep = 101 → 0 ≤ deep → ∀ (p : Nat) (w : World), p ≤ s.size → RdI w b s p →
    Calls Try.prog 29 #[.pointer (some ⟨b, 0, none⟩), .int .i64 deep] w (RiPost b s (readI f (fromB s p)) (2 * f + 1) w)
  | f, deep, hf, hd0, p, w, hp, R => by
    have ih : ∀ f', f = f' + 1 → ∀ (q : Nat) (W : World), q ≤ s.size → RdI W b s q → Calls Try.prog 29 #[.pointer (some ⟨b, 0, none⟩), .int .i64 (deep + 1)] W (RiPost b s (readI f' (fromB s q)) (2 * f' + 1) W) := fun f' e => by
      subst e; exact value_c s b hs f' (deep + 1) (by omega) (by omega)
    replace ih := Lib.hid ih
    have hbl := R.lt
    obtain ⟨m, hmd⟩ : ∃ m, m = readI f (fromB s p) := ⟨_, rfl⟩
    rw [← hmd]
    obtain ⟨r_0, r_1⟩ := R.row.box2
    by_cases hgo : p < s.size ∧ f ≠ 0
    rotate_left
    · have hm : m = none := by
        by_cases hf0 : f = 0
        · rw [hmd, hf0]; rfl
        · rw [hmd, fromB_nil (by by_cases h : p < s.size; exact absurd ⟨h, hf0⟩ hgo; omega)]
          cases f <;> rfl
      have hways : decide (100 < deep) = true ∨ (decide (100 < deep) = false ∧ decide ((s.size : Int) ≤ (p : Int)) = true ∧ s.size ≤ p) := by
        by_cases hf0 : f = 0
        · exact .inl (decide_eq_true (by omega))
        · exact .inr ⟨decide_eq_false (by omega), decide_eq_true (by by_cases h : p < s.size; exact absurd ⟨h, hf0⟩ hgo; omega), by by_cases h : p < s.size; exact absurd ⟨h, hf0⟩ hgo; omega⟩
      replace hm := Lib.hid hm; replace hmd := Lib.hid hmd
      clear hgo
      rcases hways with d1 | ⟨d1, d2, d3⟩
      all_goals
        go_enter Try.func29, Try.ntmps29
        go_upto_region 1 with fail
        (refine wp_region_ext_lit (by kernel_rfl) (by kernel_rfl) ?_; (repeat (any_goals (first | go_big_quiet_step (fail) | quiet_step (fail) | (refine wpQuiet_step (fun K hK => ?_); go_simp; split <;> (refine hK _ ?_; clear hK K))))); all_goals (refine wpQuiet_nil ?_; rintro w1 ⟨⟨_, hb1⟩, rfl⟩))
        all_goals first | (exfalso; omega) | skip
        all_goals go_wp2_with fail
        all_goals go_returns
        all_goals exact .inr ⟨none, p, rfl, R.below hb1, hp, hm.out, RdF.of hb1 (by omega)⟩
    obtain ⟨hlt, hf0⟩ := hgo
    obtain ⟨f', rfl⟩ : ∃ f', f = f' + 1 := ⟨f - 1, by omega⟩
    have d1 : decide (100 < deep) = false := decide_eq_false (by omega)
    have d2 : decide ((s.size : Int) ≤ (p : Int)) = false := decide_eq_false (by omega)
    have ne : ∀ (x c : UInt8), (x.toNat : Int) ≠ (c.toNat : Int) → x ≠ c := fun x c h e => h (by rw [e])
    have eq : ∀ (x c : UInt8), (x.toNat : Int) = (c.toNat : Int) → x = c := fun x c h => UInt8.toNat_inj.1 (by omega)
    have hm0 : m = if isAt [40, 41] (fromB s p) then some (tUnit, (fromB s p).drop 2)
      else if isAt [91, 93] (fromB s p) then some (tCon0 ⟨#[91, 93]⟩, (fromB s p).drop 2)
      else if s[p] = 40 then insideI (readI f') (fromB s (p + 1))
      else if s[p] = 34 then strR (fromB s (p + 1))
      else if numB s[p] then match textNum (tw numB s p) with
        | some n => some (tInt n, (fromB s p).drop (tw numB s p).length)
        | none => none
      else if tw wrdB s p = [] then none
      else some (tCon0 ⟨(tw wrdB s p).toArray⟩, (fromB s p).drop (tw wrdB s p).length) := by
      rw [hmd]
      unfold tw
      rw [fromB_cons hlt]
      rfl
    have h40 := isAt40 hlt
    replace hmd := Lib.hid hmd; replace hm0 := Lib.hid hm0; replace h40 := Lib.hid h40
    go_enter Try.func29, Try.ntmps29
    go_upto_region 1 with fail
    (refine wp_region_ext_lit (by kernel_rfl) (by kernel_rfl) ?_; (repeat (any_goals (first | go_big_quiet_step (fail) | quiet_step (fail) | (refine wpQuiet_step (fun K hK => ?_); go_simp; split <;> (refine hK _ ?_; clear hK K))))); all_goals (refine wpQuiet_nil ?_; rintro w1 ⟨⟨_, hb1⟩, rfl⟩))
    have R1 := R.below hb1
    have F1 := RdF.of hb1 (by omega : b ≤ w.heap.size)
    clear r_0 r_1
    obtain ⟨r_0, r_1⟩ := R1.row.box2
    have hbl1 := R1.lt
    go_upto_region 3 with fail
    (refine wp_region_ext_lit (by kernel_rfl) (by kernel_rfl) ?_; (repeat (any_goals (first | go_big_quiet_step (fail) | quiet_step (fail) | (refine wpQuiet_step (fun K hK => ?_); go_simp; split <;> (refine hK _ ?_; clear hK K))))); all_goals (refine wpQuiet_nil ?_; rintro w2 ⟨⟨_, hb2⟩, rfl⟩))
    have R2 := R1.below hb2
    have F2 := F1.trans (RdF.of hb2 (by omega))
    clear r_0 r_1
    go_upto_region 4 with fail
    cases h1 : isAt (⟨#[40, 41]⟩ : ByteArray).data.toList (fromB s p)
    rotate_left
    · have hm : m = some (tUnit, fromB s (p + 2)) := by rw [hm0.out, if_pos (show isAt [40, 41] (fromB s p) = true from h1), fromB_drop]
      have hp2 : p + 2 ≤ s.size := at_le (t := ⟨#[40, 41]⟩) (by decide) h1
      have hwf : (PxT.mk 6 0 ⟨#[]⟩ []).wf := wf0 (k := 6) (by omega) (by decide)
      replace hm := Lib.hid hm
      go_wp2_with (go_at_call 52; (with_reducible refine (take_c s ⟨#[40, 41]⟩ p b hs (by decide) (by omega) _ R2).mono ?_); rintro e w3 ⟨rfl, R3, F3⟩; rw [h1] at R3; replace R3 : RdI w3 b s (p + 2) := R3)
      have F3 := F2.trans F3
      have hb9 : Below w3.heap.size w3 (w3.alloc (.cells #[.int .i64 6, .int .i64 0, .string ⟨#[]⟩, .slice none 0 0] 82)) := by go_grown
      have hz9 := (F3).size
      go_returns
      exact .inl ⟨w3.heap.size, p + 2, _, rfl, px_mono (px_leaf (S := fun g => w.heap.size ≤ g) hwf (by show w.heap.size ≤ w3.heap.size; omega) (RowAt.box w3 #[.int .i64 6, .int .i64 0, .string ⟨#[]⟩, .slice none 0 0] _)) (by omega), Wr.box w3 #[.int .i64 6, .int .i64 0, .string ⟨#[]⟩, .slice none 0 0] _, (R3).below hb9, hp2, hm.out, (F3).trans (RdF.of hb9 (by have := (R3).lt; omega))⟩
    cases h2 : isAt (⟨#[91, 93]⟩ : ByteArray).data.toList (fromB s p)
    rotate_left
    · have hm : m = some (tCon0 ⟨#[91, 93]⟩, fromB s (p + 2)) := by rw [hm0.out, if_neg (by rw [show isAt [40, 41] (fromB s p) = false from h1]; decide), if_pos (show isAt [91, 93] (fromB s p) = true from h2), fromB_drop]
      have hp2 : p + 2 ≤ s.size := at_le (t := ⟨#[91, 93]⟩) (by decide) h2
      have hwf : (PxT.mk 4 0 ⟨#[91, 93]⟩ []).wf := wf0 (k := 4) (by omega) (by decide)
      replace hm := Lib.hid hm
      go_wp2_with (first
        | (go_at_call 52; (with_reducible refine (take_c s ⟨#[40, 41]⟩ p b hs (by decide) (by omega) _ R2).mono ?_); rintro e w3 ⟨rfl, R3, F3⟩; rw [h1] at R3; replace R3 : RdI w3 b s (p) := R3)
        | (go_at_call 52; (with_reducible refine (take_c s ⟨#[91, 93]⟩ p b hs (by decide) (by omega) _ R3).mono ?_); rintro e w4 ⟨rfl, R4, F4⟩; rw [h2] at R4; replace R4 : RdI w4 b s (p + 2) := R4))
      have F4 := (F2.trans F3).trans F4
      have hb9 : Below w4.heap.size w4 (w4.alloc (.cells #[.int .i64 4, .int .i64 0, .string ⟨#[91, 93]⟩, .slice none 0 0] 82)) := by go_grown
      have hz9 := (F4).size
      go_returns
      exact .inl ⟨w4.heap.size, p + 2, _, rfl, px_mono (px_leaf (S := fun g => w.heap.size ≤ g) hwf (by show w.heap.size ≤ w4.heap.size; omega) (RowAt.box w4 #[.int .i64 4, .int .i64 0, .string ⟨#[91, 93]⟩, .slice none 0 0] _)) (by omega), Wr.box w4 #[.int .i64 4, .int .i64 0, .string ⟨#[91, 93]⟩, .slice none 0 0] _, (R4).below hb9, hp2, hm.out, (F4).trans (RdF.of hb9 (by have := (R4).lt; omega))⟩
    have hm1 : m = if s[p] = 40 then insideI (readI f') (fromB s (p + 1))
      else if s[p] = 34 then strR (fromB s (p + 1))
      else if numB s[p] then match textNum (tw numB s p) with
        | some n => some (tInt n, (fromB s p).drop (tw numB s p).length)
        | none => none
      else if tw wrdB s p = [] then none
      else some (tCon0 ⟨(tw wrdB s p).toArray⟩, (fromB s p).drop (tw wrdB s p).length) := by
      rw [hm0.out, if_neg (by rw [show isAt [40, 41] (fromB s p) = false from h1]; decide), if_neg (by rw [show isAt [91, 93] (fromB s p) = false from h2]; decide)]
    replace hm1 := Lib.hid hm1
    go_upto_region 8 with (first
      | (go_at_call 52; (with_reducible refine (take_c s ⟨#[40, 41]⟩ p b hs (by decide) (by omega) _ R2).mono ?_); rintro e w3 ⟨rfl, R3, F3⟩; rw [h1] at R3; replace R3 : RdI w3 b s (p) := R3)
      | (go_at_call 52; (with_reducible refine (take_c s ⟨#[91, 93]⟩ p b hs (by decide) (by omega) _ R3).mono ?_); rintro e w4 ⟨rfl, R4, F4⟩; rw [h2] at R4; replace R4 : RdI w4 b s (p) := R4))
    have F4' := (F2.trans F3).trans F4
    clear h1 h2 F3 F4 R3 R2
    by_cases q40 : s[p] = 40
    · have h3 : isAt (⟨#[40]⟩ : ByteArray).data.toList (fromB s p) = true := by rw [h40.out]; exact decide_eq_true q40
      have hm : m = insideI (readI f') (fromB s (p + 1)) := by rw [hm1.out, if_pos q40]
      have hwd : IntKind.i64.wrap (deep + 1) = deep + 1 := IntWalk.i64_in _ (by omega)
      replace hm := Lib.hid hm; replace q40 := Lib.hid q40
      go_upto_region 9 with (go_at_call 52; (with_reducible refine (take_c s ⟨#[40]⟩ p b hs (by decide) (by omega) _ R4).mono ?_); rintro e w5 ⟨rfl, R5, F5⟩; rw [h3] at R5; replace R5 : RdI w5 b s (p + 1) := R5)
      clear h3
      have cI := inside_c s f' (p + 1) b (deep + 1) hs (by omega) w5 R5 (ih.out f' rfl)
      rw [← hm.out] at cI
      replace cI := Lib.hid cI
      have F5' := F4'.trans F5
      have hz5 := F5'.size
      go_wp2_with (go_at_call 53; (with_reducible refine (cI.out).mono ?_); rintro e w6 hE; rcases hE with ⟨q1, p1, ta, rfl, T6, WQ6, R6, hp1, hm1, F6⟩ | ⟨v1, p1, rfl, R6, hp1, hm1, F6⟩)
      · go_returns
        exact .inl ⟨q1, p1, ta, rfl, (px_mono T6 (by omega)).to (fun _ _ _ => rfl) (fun g hg _ => by omega), WQ6, R6, hp1, hm1, F5'.trans F6⟩
      · go_returns
        exact .inr ⟨v1, p1, rfl, R6, hp1, hm1, F5'.trans F6⟩
    have h3 : isAt (⟨#[40]⟩ : ByteArray).data.toList (fromB s p) = false := by rw [h40.out]; exact decide_eq_false q40
    go_upto_region 10 with (go_at_call 52; (with_reducible refine (take_c s ⟨#[40]⟩ p b hs (by decide) (by omega) _ R4).mono ?_); rintro e w5 ⟨rfl, R5, F5⟩; rw [h3] at R5; replace R5 : RdI w5 b s (p) := R5)
    clear h3
    have F5' := F4'.trans F5
    have hz5 := F5'.size
    by_cases q34 : (s[p].toNat : Int) = 34
    · have e1 : ((s[p].toNat : Int) == 34) = true := by rw [q34]; rfl
      have hq := eq s[p] 34 q34
      have hm : m = strR (fromB s (p + 1)) := by rw [hm1.out, if_neg q40, if_pos hq]
      have cI := text_c s p b hs hlt hq w5 R5
      rw [← hm] at cI
      replace hm := Lib.hid hm; replace hq := Lib.hid hq; replace q40 := Lib.hid q40; replace cI := Lib.hid cI
      clear q34
      go_wp2_with (go_at_call 54; (with_reducible refine (cI.out).mono ?_); rintro e w6 hE; rcases hE with ⟨q1, p1, ta, rfl, T6, WQ6, R6, hp1, hm1, F6⟩ | ⟨v1, p1, rfl, R6, hp1, hm1, F6⟩)
      · go_returns
        exact .inl ⟨q1, p1, ta, rfl, (px_mono T6 (by omega)).to (fun _ _ _ => rfl) (fun g hg _ => by omega), WQ6, R6, hp1, hm1, F5'.trans F6⟩
      · go_returns
        exact .inr ⟨v1, p1, rfl, R6, hp1, hm1, F5'.trans F6⟩
    have e1 : ((s[p].toNat : Int) == 34) = false := by rw [beq_eq_false_iff_ne]; exact q34
    have hm2 : m = if numB s[p] then match textNum (tw numB s p) with
        | some n => some (tInt n, fromB s (p + (tw numB s p).length))
        | none => none
      else if tw wrdB s p = [] then none
      else some (tCon0 ⟨(tw wrdB s p).toArray⟩, fromB s (p + (tw wrdB s p).length)) := by
      rw [hm1.out, if_neg q40, if_neg (ne s[p] 34 q34), fromB_drop, fromB_drop]
    have hnum : numB s[p] = (((s[p].toNat : Int) == 45) || digB s[p].toNat) := by
      have e45 : decide (s[p] = 45) = ((s[p].toNat : Int) == 45) := by
        by_cases h : s[p] = 45
        · rw [h]; rfl
        · rw [decide_eq_false h]
          have : (s[p].toNat : Int) ≠ 45 := fun e => h (eq s[p] 45 e)
          rw [beq_eq_false_iff_ne.2 this]
      unfold numB; rw [e45]
    have c1 := fun W => isDigit_c (s[p].toNat : Int) W
    have cN := run_c s p b numB 58 hs hp (fun x W => isNum_c x W) (fun args w => by kernel_rfl) w5 R5
    have cW := run_c s p b wrdB 59 hs hp (fun x W => wrd_c x W) (fun args w => by kernel_rfl) w5 R5
    have hlN := tw_le numB s hp
    have hlW := tw_le wrdB s hp
    generalize tw numB s p = ln at *
    generalize tw wrdB s p = lw at *
    obtain ⟨ns, hns⟩ : ∃ ns : ByteArray, ns = ⟨ln.toArray⟩ := ⟨_, rfl⟩
    have hnd : ns.data.toList = ln := by rw [hns]
    have hnz : ns.size = ln.length := by rw [← hnd]; rfl
    obtain ⟨ws, hws⟩ : ∃ ns : ByteArray, ns = ⟨lw.toArray⟩ := ⟨_, rfl⟩
    have hwd : ws.data.toList = lw := by rw [hws]
    have hwz : ws.size = lw.length := by rw [← hwd]; rfl
    rw [← hns] at cN
    rw [← hws] at cW hm2
    have cT := fun W => impl_TextNum_c ns (show ns.size ≤ 9223372036854775807 by omega) W
    rw [hnd] at cT
    have hti : ∀ n, textNum ln = some n → In63 n := fun n h => (textNum_some.1 h).1
    obtain ⟨tn, htn⟩ : ∃ tn : Option Int → Option (PxT × List UInt8), tn = fun u => match u with
          | some n => some (tInt n, fromB s (p + ln.length))
          | none => none := ⟨_, rfl⟩
    replace hm2 : m = if numB s[p] then tn (textNum ln) else if lw = [] then none else some (tCon0 ws, fromB s (p + lw.length)) := by rw [htn]; exact hm2
    clear hmd hm0 hm1
    generalize textNum ln = u at *
    replace hm2 := Lib.hid hm2; replace q40 := Lib.hid q40; replace cT := Lib.hid cT; replace cN := Lib.hid cN; replace cW := Lib.hid cW; replace hti := Lib.hid hti
    replace hns := Lib.hid hns; replace hnd := Lib.hid hnd; replace hws := Lib.hid hws; replace hwd := Lib.hid hwd; replace hnz := Lib.hid hnz; replace htn := Lib.hid htn
    clear q34
    have hnum3 : (((s[p].toNat : Int) == 45) = true ∧ numB s[p] = true) ∨ (((s[p].toNat : Int) == 45) = false ∧ digB s[p].toNat = numB s[p]) := by
      cases h : ((s[p].toNat : Int) == 45)
      · exact .inr ⟨rfl, by rw [hnum, h]; rfl⟩
      · exact .inl ⟨rfl, by rw [hnum, h]; rfl⟩
    clear hnum
    obtain ⟨nb, hnb⟩ : ∃ nb, nb = numB s[p] := ⟨_, rfl⟩
    rw [← hnb] at hnum3 hm2
    clear hnb
    cases nb
    · obtain ⟨e2, e3⟩ : ((s[p].toNat : Int) == 45) = false ∧ digB s[p].toNat = false := by
        rcases hnum3 with ⟨_, h⟩ | h
        · cases h
        · exact h
      clear hnum3
      rw [e3] at c1
      have hm3 : m = if lw = [] then none else some (tCon0 ws, fromB s (p + lw.length)) := hm2.out
      replace hm3 := Lib.hid hm3
      clear hm2
      have hwL : lw = [] ∨ (lw ≠ [] ∧ ws.toList.isEmpty = false) := by
        by_cases h : lw = []
        · exact .inl h
        · refine .inr ⟨h, ?_⟩
          rw [ByteArray.toList_eq, hwd.out]
          cases lw with
          | nil => exact absurd rfl h
          | cons x l => rfl
      have hwf : (PxT.mk 4 0 ws []).wf := wf0 (k := 4) (by omega) (by omega)
      replace hwz := Lib.hid hwz
      rcases hwL with hl | ⟨hl, e4⟩
      · have hm : m = none := by rw [hm3.out, if_pos hl]
        have hwe : ws = ⟨#[]⟩ := by rw [hws.out, hl]
        subst hwe
        replace hm := Lib.hid hm
        replace hl := Lib.hid hl
        go_wp2_with (first
          | (go_at_call 55; (with_reducible refine (c1 _).mono ?_); rintro e w6 ⟨rfl, rfl⟩)
          | (go_at_call 57; (with_reducible refine (cW.out).mono ?_); rintro e w6 ⟨rfl, R6, F6⟩))
        have hb9 : Below w6.heap.size w6 (w6.alloc (.cells #[.int .i64 4, .int .i64 0, .string ⟨#[]⟩, .slice none 0 0] 82)) := by go_grown
        go_returns
        exact .inr ⟨some ⟨w6.heap.size, 0, none⟩, p + lw.length, rfl, R6.below hb9, hlW, hm.out, (F5'.trans F6).trans (RdF.of hb9 (by have := R6.lt; omega))⟩
      · have hm : m = some (tCon0 ws, fromB s (p + lw.length)) := by rw [hm3.out, if_neg hl]
        replace hm := Lib.hid hm; replace hwf := Lib.hid hwf; replace hl := Lib.hid hl
        go_wp2_with (first
          | (go_at_call 55; (with_reducible refine (c1 _).mono ?_); rintro e w6 ⟨rfl, rfl⟩)
          | (go_at_call 57; (with_reducible refine (cW.out).mono ?_); rintro e w6 ⟨rfl, R6, F6⟩))
        have hb9 : Below w6.heap.size w6 (w6.alloc (.cells #[.int .i64 4, .int .i64 0, .string ws, .slice none 0 0] 82)) := by go_grown
        have hz9 := (F5'.trans F6).size
        go_returns
        exact .inl ⟨w6.heap.size, p + lw.length, _, rfl, px_mono (px_leaf (S := fun g => w.heap.size ≤ g) hwf.out (by show w.heap.size ≤ w6.heap.size; omega) (RowAt.box w6 #[.int .i64 4, .int .i64 0, .string ws, .slice none 0 0] _)) (by omega), Wr.box w6 #[.int .i64 4, .int .i64 0, .string ws, .slice none 0 0] _, R6.below hb9, hlW, hm.out, (F5'.trans F6).trans (RdF.of hb9 (by have := R6.lt; omega))⟩
    · have hm3 : m = tn u := hm2.out
      replace hm3 := Lib.hid hm3
      clear hm2
      rcases hnum3 with ⟨e2, _⟩ | ⟨e2, e3⟩
      · cases u with
        | none =>
          have hm : m = none := by rw [hm3.out, htn.out]
          replace cT : Hid (∀ W, Calls Try.prog 56 #[.string ns] W fun e w' => e = .returned (.tuple #[.int .i64 0, .bool false]) ∧ Below W.heap.size W w') := cT
          clear htn
          replace hm := Lib.hid hm
          go_wp2_with (first
            | (go_at_call 55; (with_reducible refine (c1 _).mono ?_); rintro e w6 ⟨rfl, rfl⟩)
            | (go_at_call 57; (with_reducible refine (cN.out).mono ?_); rintro e w6 ⟨rfl, R6, F6⟩)
            | (go_at_call 56; (with_reducible refine (cT.out _).mono ?_); rintro e w7 ⟨rfl, hb7⟩))
          have R7 := R6.below hb7
          have F7 := (F5'.trans F6).trans (RdF.of hb7 (by have := R6.lt; omega))
          have hb9 : Below w7.heap.size w7 (w7.alloc (.cells #[.int .i64 3, .int .i64 0, .string ⟨#[]⟩, .slice none 0 0] 82)) := by go_grown
          go_returns
          exact .inr ⟨some ⟨w7.heap.size, 0, none⟩, p + ln.length, rfl, R7.below hb9, hlN, hm.out, F7.trans (RdF.of hb9 (by have := R7.lt; omega))⟩
        | some n =>
          have hm : m = some (tInt n, fromB s (p + ln.length)) := by rw [hm3.out, htn.out]
          have hwf : (PxT.mk 3 n ⟨#[]⟩ []).wf := by
            have h := hti.out n rfl
            unfold In63 at h
            exact ⟨⟨by show _ ≤ (3 : Int); omega, by show (3 : Int) ≤ _; omega⟩, ⟨by show _ ≤ n; omega, by show n ≤ _; omega⟩, show 0 ≤ 9223372036854775807 by omega⟩
          replace cT : Hid (∀ W, Calls Try.prog 56 #[.string ns] W fun e w' => e = .returned (.tuple #[.int .i64 n, .bool true]) ∧ Below W.heap.size W w') := cT
          clear htn
          replace hm := Lib.hid hm; replace hwf := Lib.hid hwf
          go_wp2_with (first
            | (go_at_call 55; (with_reducible refine (c1 _).mono ?_); rintro e w6 ⟨rfl, rfl⟩)
            | (go_at_call 57; (with_reducible refine (cN.out).mono ?_); rintro e w6 ⟨rfl, R6, F6⟩)
            | (go_at_call 56; (with_reducible refine (cT.out _).mono ?_); rintro e w7 ⟨rfl, hb7⟩))
          have R7 := R6.below hb7
          have F7 := (F5'.trans F6).trans (RdF.of hb7 (by have := R6.lt; omega))
          have hz9 := F7.size
          have hb9 : Below w7.heap.size w7 (w7.alloc (.cells #[.int .i64 3, .int .i64 n, .string ⟨#[]⟩, .slice none 0 0] 82)) := by go_grown
          go_returns
          exact .inl ⟨w7.heap.size, p + ln.length, _, rfl, px_mono (px_leaf (S := fun g => w.heap.size ≤ g) hwf.out (by show w.heap.size ≤ w7.heap.size; omega) (RowAt.box w7 #[.int .i64 3, .int .i64 n, .string ⟨#[]⟩, .slice none 0 0] _)) (by omega), Wr.box w7 #[.int .i64 3, .int .i64 n, .string ⟨#[]⟩, .slice none 0 0] _, R7.below hb9, hlN, hm.out, F7.trans (RdF.of hb9 (by have := R7.lt; omega))⟩
      · rw [e3] at c1
        cases u with
        | none =>
          have hm : m = none := by rw [hm3.out, htn.out]
          replace cT : Hid (∀ W, Calls Try.prog 56 #[.string ns] W fun e w' => e = .returned (.tuple #[.int .i64 0, .bool false]) ∧ Below W.heap.size W w') := cT
          clear htn
          replace hm := Lib.hid hm
          go_wp2_with (first
            | (go_at_call 55; (with_reducible refine (c1 _).mono ?_); rintro e w6 ⟨rfl, rfl⟩)
            | (go_at_call 57; (with_reducible refine (cN.out).mono ?_); rintro e w6 ⟨rfl, R6, F6⟩)
            | (go_at_call 56; (with_reducible refine (cT.out _).mono ?_); rintro e w7 ⟨rfl, hb7⟩))
          have R7 := R6.below hb7
          have F7 := (F5'.trans F6).trans (RdF.of hb7 (by have := R6.lt; omega))
          have hb9 : Below w7.heap.size w7 (w7.alloc (.cells #[.int .i64 3, .int .i64 0, .string ⟨#[]⟩, .slice none 0 0] 82)) := by go_grown
          go_returns
          exact .inr ⟨some ⟨w7.heap.size, 0, none⟩, p + ln.length, rfl, R7.below hb9, hlN, hm.out, F7.trans (RdF.of hb9 (by have := R7.lt; omega))⟩
        | some n =>
          have hm : m = some (tInt n, fromB s (p + ln.length)) := by rw [hm3.out, htn.out]
          have hwf : (PxT.mk 3 n ⟨#[]⟩ []).wf := by
            have h := hti.out n rfl
            unfold In63 at h
            exact ⟨⟨by show _ ≤ (3 : Int); omega, by show (3 : Int) ≤ _; omega⟩, ⟨by show _ ≤ n; omega, by show n ≤ _; omega⟩, show 0 ≤ 9223372036854775807 by omega⟩
          replace cT : Hid (∀ W, Calls Try.prog 56 #[.string ns] W fun e w' => e = .returned (.tuple #[.int .i64 n, .bool true]) ∧ Below W.heap.size W w') := cT
          clear htn
          replace hm := Lib.hid hm; replace hwf := Lib.hid hwf
          go_wp2_with (first
            | (go_at_call 55; (with_reducible refine (c1 _).mono ?_); rintro e w6 ⟨rfl, rfl⟩)
            | (go_at_call 57; (with_reducible refine (cN.out).mono ?_); rintro e w6 ⟨rfl, R6, F6⟩)
            | (go_at_call 56; (with_reducible refine (cT.out _).mono ?_); rintro e w7 ⟨rfl, hb7⟩))
          have R7 := R6.below hb7
          have F7 := (F5'.trans F6).trans (RdF.of hb7 (by have := R6.lt; omega))
          have hz9 := F7.size
          have hb9 : Below w7.heap.size w7 (w7.alloc (.cells #[.int .i64 3, .int .i64 n, .string ⟨#[]⟩, .slice none 0 0] 82)) := by go_grown
          go_returns
          exact .inl ⟨w7.heap.size, p + ln.length, _, rfl, px_mono (px_leaf (S := fun g => w.heap.size ≤ g) hwf.out (by show w.heap.size ≤ w7.heap.size; omega) (RowAt.box w7 #[.int .i64 3, .int .i64 n, .string ⟨#[]⟩, .slice none 0 0] _)) (by omega), Wr.box w7 #[.int .i64 3, .int .i64 n, .string ⟨#[]⟩, .slice none 0 0] _, R7.below hb9, hlN, hm.out, F7.trans (RdF.of hb9 (by have := R7.lt; omega))⟩
end Go.Proofs.Ytpblhonnknmjjaa

/- A right value's text is read back: what is right, its text, and that readS recovers it. -/
namespace Go.Proofs.Ytpblhonnknmjjaa
open Go.RowKit
set_option linter.unusedVariables false
set_option linter.unusedSimpArgs false

/-- A constructor without an argument. -/
def con0 (s : ByteArray) : Prop := s.data.toList = sTrue ∨ s.data.toList = sFalse ∨ s.data.toList = sNil ∨ conOk s = true
/-- t is a right value of at most F parentheses within each other, and l its text. -/
inductive Right : Nat → PxT → List UInt8 → Prop
  | int {F n} (h : In63 n) : Right (F + 1) (tInt n) (numL n)
  | str {F s} : Right (F + 1) (tStr s) (quoteS s).data.toList
  | unit {F} : Right (F + 1) tUnit [40, 41]
  | con0 {F s} (h : con0 s) : Right (F + 1) (tCon0 s) s.data.toList
  | pair {F a b la lb} (ha : Right F a la) (hb : Right F b lb) : Right (F + 1) (tPair a b) (40 :: (la ++ kComma ++ lb ++ [41]))
  | cons {F a b la lb} (ha : Right F a la) (hb : Right F b lb) : Right (F + 1) (tCons a b) (40 :: (la ++ kColons ++ lb ++ [41]))
  | con1 {F s a la} (h : conOk s = true) (ha : Right F a la) : Right (F + 1) (tCon1 s a) (40 :: (s.data.toList ++ [32] ++ la ++ [41]))

theorem Right.succ {F : Nat} {t : PxT} {l : List UInt8} (h : Right F t l) : Right (F + 1) t l := by
  induction h with
  | int h => exact .int h
  | str => exact .str
  | unit => exact .unit
  | con0 h => exact .con0 h
  | pair _ _ ia ib => exact .pair ia ib
  | cons _ _ ia ib => exact .cons ia ib
  | con1 h _ ia => exact .con1 h ia
theorem Right.mono {F : Nat} {t : PxT} {l : List UInt8} (h : Right F t l) : ∀ {G : Nat}, F ≤ G → Right G t l
  | 0, hG => by obtain rfl : F = 0 := by omega
                exact h
  | G + 1, hG => by
    by_cases e : F = G + 1
    · exact e ▸ h
    · exact (h.mono (by omega : F ≤ G)).succ

theorem wordB_stop {b : UInt8} (h : wordB b.toNat = true) : stopB b = false := by
  have tn : ∀ k : UInt8, wordB (k.toNat : Int) = false → (b == k) = false := fun k hk => by
    cases e : (b == k) with
    | false => rfl
    | true => rw [eq_of_beq e, hk] at h; cases h
  unfold stopB
  rw [tn 32 (by decide), tn 44 (by decide), tn 41 (by decide), tn 40 (by decide)]
  rfl
theorem conOk_word {s : ByteArray} (h : conOk s = true) : (∀ b ∈ s.data.toList, wordB b.toNat = true) ∧ ∃ b l, s.data.toList = b :: l ∧ 65 ≤ b.toNat ∧ b.toNat ≤ 90 := by
  unfold conOk wordOk allW at h
  simp only [Bool.and_eq_true, decide_eq_true_eq, List.all_eq_true] at h
  obtain ⟨⟨h1, h2⟩, h3⟩ := h
  refine ⟨h1, ?_⟩
  have h0 : 0 < s.size := by omega
  cases e : s.data.toList with
  | nil =>
    have : s.data.toList.length = 0 := by rw [e]; rfl
    have h4 : s.size = s.data.toList.length := rfl
    omega
  | cons b l =>
    refine ⟨b, l, rfl, ?_⟩
    unfold firstB at h3
    rw [dif_pos h0] at h3
    have hb : s[0] = b := by
      have : s.data.toList[0]? = some b := by rw [e]; rfl
      rw [Array.getElem?_toList] at this
      have h5 := Array.getElem?_eq_getElem (xs := s.data) (i := 0) h0
      rw [this] at h5
      exact (Option.some.inj h5).symm
    rw [hb] at h3
    unfold upB at h3
    simp at h3
    omega
theorem con0_word {s : ByteArray} (h : con0 s) : (∀ b ∈ s.data.toList, stopB b = false) ∧ ∃ b l, s.data.toList = b :: l ∧ ((65 ≤ b.toNat ∧ b.toNat ≤ 90) ∨ b = 116 ∨ b = 102 ∨ b = 91) := by
  rcases h with h | h | h | h
  · rw [h]; exact ⟨by decide, 116, _, rfl, .inr (.inl rfl)⟩
  · rw [h]; exact ⟨by decide, 102, _, rfl, .inr (.inr (.inl rfl))⟩
  · rw [h]; exact ⟨by decide, 91, _, rfl, .inr (.inr (.inr rfl))⟩
  · obtain ⟨h1, b, l, e, h2, h3⟩ := conOk_word h
    exact ⟨fun c hc => wordB_stop (h1 c hc), b, l, e, .inl ⟨h2, h3⟩⟩
theorem numL_word {n : Int} (h : In63 n) : (∀ b ∈ numL n, stopB b = false) ∧ ∃ b l, numL n = b :: l ∧ (b.toNat = 45 ∨ (48 ≤ b.toNat ∧ b.toNat ≤ 57)) := by
  have h1 := numL_bytes h
  refine ⟨fun b hb => ?_, ?_⟩
  · have h2 := h1 b hb
    have tn : ∀ k : UInt8, k.toNat ≠ 45 → ¬ (48 ≤ k.toNat ∧ k.toNat ≤ 57) → (b == k) = false := fun k h3 h4 => by
      cases e : (b == k) with
      | false => rfl
      | true => rw [eq_of_beq e] at h2; omega
    unfold stopB
    rw [tn 32 (by decide) (by decide), tn 44 (by decide) (by decide), tn 41 (by decide) (by decide), tn 40 (by decide) (by decide)]
    rfl
  · cases e : numL n with
    | nil => exact absurd e (numL_ne h)
    | cons b l => exact ⟨b, l, rfl, h1 b (by rw [e]; simp)⟩
/-- How a right value's text begins. -/
theorem Right.head {F : Nat} {t : PxT} {l : List UInt8} (h : Right F t l) : ∃ b m, l = b :: m ∧ b ≠ 41 ∧ b ≠ 58 ∧ b ≠ 32 ∧ (65 ≤ b.toNat ∧ b.toNat ≤ 90 → ∀ c ∈ l, stopB c = false) := by
  have ne : ∀ (x k : UInt8), x.toNat ≠ k.toNat → x ≠ k := fun x k h e => h (by rw [e])
  have par : ∀ m : List UInt8, ∃ b r, (40 :: m : List UInt8) = b :: r ∧ b ≠ 41 ∧ b ≠ 58 ∧ b ≠ 32 ∧ (65 ≤ b.toNat ∧ b.toNat ≤ 90 → ∀ c ∈ (40 :: m : List UInt8), stopB c = false) := fun m =>
    ⟨40, m, rfl, by decide, by decide, by decide, fun h => absurd h (by decide)⟩
  cases h with
  | int h =>
    obtain ⟨h1, b, l, e, h2⟩ := numL_word h
    exact ⟨b, l, e, ne _ _ (by show _ ≠ 41; omega), ne _ _ (by show _ ≠ 58; omega), ne _ _ (by show _ ≠ 32; omega), fun _ => h1⟩
  | str => exact ⟨34, _, quoteS_list _, by decide, by decide, by decide, fun h => absurd h (by decide)⟩
  | unit => exact par _
  | con0 h =>
    obtain ⟨h1, b, l, e, h2⟩ := con0_word h
    refine ⟨b, l, e, ?_, ?_, ?_, fun _ => h1⟩
    all_goals
      rcases h2 with h2 | rfl | rfl | rfl
      · exact ne _ _ (by first | (show _ ≠ 41; omega) | (show _ ≠ 58; omega) | (show _ ≠ 32; omega))
      · decide
      · decide
      · decide
  | pair => exact par _
  | cons => exact par _
  | con1 => exact par _

theorem upHead_iff {b : UInt8} {l : List UInt8} : upHead (b :: l) = true ↔ 65 ≤ b.toNat ∧ b.toNat ≤ 90 := by simp [upHead]
theorem not_isAt41 {l : List UInt8} {b : UInt8} {m : List UInt8} (e : l = b :: m) (h : b ≠ 41) : isAt [41] l = false := by
  rw [e, isAt_one]
  cases h' : ((41 : UInt8) == b) with
  | false => rfl
  | true => exact absurd (eq_of_beq h').symm h
theorem goodR_close (r : List UInt8) : GoodR (41 :: r) := goodR_cons (by decide)
theorem goodR_colons (r : List UInt8) : GoodR (kColons ++ r) := goodR_cons (by decide)
theorem goodR_comma (r : List UInt8) : GoodR (kComma ++ r) := goodR_cons (by decide)
/-- Behind the first part of a pair no argument of a constructor is read. -/
theorem no_arg {F : Nat} {t : PxT} {l : List UInt8} (h : Right F t l) {r : List UInt8} (hg : GoodR r) (hr : isAt [32] r = false ∨ isAt kColons r = true) : (upHead (l ++ r) && (isAt [32] (wRest (l ++ r)) && !isAt kColons (wRest (l ++ r)))) = false := by
  obtain ⟨b, m, e, h1, h2, h3, h4⟩ := h.head
  cases hu : upHead (l ++ r) with
  | false => rfl
  | true =>
    have hb : 65 ≤ b.toNat ∧ b.toNat ≤ 90 := by rw [e] at hu; exact upHead_iff.1 hu
    have hw := (span_word (h4 hb) hg).2
    rw [hw]
    rcases hr with hr | hr
    · rw [hr]; rfl
    · rw [hr]; simp

set_option maxHeartbeats 1000000 in
theorem readS_right {F : Nat} {t : PxT} {l : List UInt8} (h : Right F t l) : ∀ r : List UInt8, GoodR r → readS F (l ++ r) = some (t, r) := by
  induction h with
  | @int F n h =>
    intro r hr
    obtain ⟨h1, b, m, e, h2⟩ := numL_word h
    obtain ⟨s1, s2⟩ := span_word h1 hr
    have hr0 : readS (F + 1) (numL n ++ r) = match textNum (wOf (numL n ++ r)) with
        | some n' => some (tInt n', wRest (numL n ++ r))
        | none => some (tCon0 ⟨(wOf (numL n ++ r)).toArray⟩, wRest (numL n ++ r)) := by
      rw [e]
      show readS (F + 1) (b :: (m ++ r)) = _
      unfold readS
      dsimp only
      rw [if_neg (fun h => by rw [h] at h2; revert h2; decide), if_neg (fun h => by rw [h] at h2; revert h2; decide)]
      rfl
    rw [hr0, s1, s2, textNum_num h]
  | @str F s =>
    intro r hr
    rw [quoteS_list]
    show readS (F + 1) (34 :: ((s.data.toList.flatMap quoteB ++ [34]) ++ r)) = _
    unfold readS
    dsimp only
    rw [if_neg (by decide), if_pos rfl, List.append_assoc, List.singleton_append, scanQ_quote]
    dsimp only
    rw [← quoteS_list, unquote_quote]
  | @unit F =>
    intro r hr
    show readS (F + 1) (40 :: (41 :: r)) = _
    unfold readS
    dsimp only
    rw [if_pos rfl]
    unfold readIn
    rw [if_pos (by rw [isAt_one]; rfl)]
    rfl
  | @con0 F s h =>
    intro r hr
    obtain ⟨h1, b, m, e, h2⟩ := con0_word h
    obtain ⟨s1, s2⟩ := span_word h1 hr
    have hn : textNum s.data.toList = none := by
      rw [e]
      refine textNum_no ?_ ?_
      · rcases h2 with h2 | rfl | rfl | rfl
        · omega
        · decide
        · decide
        · decide
      · rcases h2 with h2 | rfl | rfl | rfl
        · omega
        · decide
        · decide
        · decide
    have hr0 : readS (F + 1) (s.data.toList ++ r) = match textNum (wOf (s.data.toList ++ r)) with
        | some n' => some (tInt n', wRest (s.data.toList ++ r))
        | none => some (tCon0 ⟨(wOf (s.data.toList ++ r)).toArray⟩, wRest (s.data.toList ++ r)) := by
      rw [e]
      show readS (F + 1) (b :: (m ++ r)) = _
      unfold readS
      dsimp only
      rw [if_neg (fun h => by rw [h] at h2; revert h2; decide), if_neg (fun h => by rw [h] at h2; revert h2; decide)]
      rfl
    rw [hr0, s1, s2, hn]
  | @pair F a b la lb ha hb ia ib =>
    intro r hr
    have e0 : (40 :: (la ++ kComma ++ lb ++ [41])) ++ r = 40 :: (la ++ (kComma ++ (lb ++ (41 :: r)))) := by simp
    rw [e0]
    unfold readS
    dsimp only
    rw [if_pos rfl]
    obtain ⟨c, m, e, h1, _⟩ := ha.head
    unfold readIn
    rw [if_neg (by rw [not_isAt41 (l := la ++ _) (b := c) (m := m ++ _) (by rw [e]; rfl) h1]; decide)]
    rw [if_neg (by rw [no_arg ha (goodR_comma _) (.inl rfl)]; decide)]
    rw [ia _ (goodR_comma _)]
    dsimp only
    rw [if_neg (show ¬ isAt kColons (kComma ++ (lb ++ 41 :: r)) = true from fun h => by cases h), if_pos (isAt_self _ _)]
    show (match readS F (lb ++ (41 :: r)) with | none => none | some (b, r2) => _) = _
    rw [ib _ (goodR_close r)]
    dsimp only
    rw [if_pos (by rw [isAt_one]; rfl)]
    rfl
  | @cons F a b la lb ha hb ia ib =>
    intro r hr
    have e0 : (40 :: (la ++ kColons ++ lb ++ [41])) ++ r = 40 :: (la ++ (kColons ++ (lb ++ (41 :: r)))) := by simp
    rw [e0]
    unfold readS
    dsimp only
    rw [if_pos rfl]
    obtain ⟨c, m, e, h1, _⟩ := ha.head
    unfold readIn
    rw [if_neg (by rw [not_isAt41 (l := la ++ _) (b := c) (m := m ++ _) (by rw [e]; rfl) h1]; decide)]
    rw [if_neg (by rw [no_arg ha (goodR_colons _) (.inr (isAt_self _ _))]; decide)]
    rw [ia _ (goodR_colons _)]
    dsimp only
    rw [if_pos (isAt_self _ _)]
    show (match readS F (lb ++ (41 :: r)) with | none => none | some (b, r2) => _) = _
    rw [ib _ (goodR_close r)]
    dsimp only
    rw [if_pos (by rw [isAt_one]; rfl)]
    rfl
  | @con1 F s a la h ha ia =>
    intro r hr
    have e0 : (40 :: (s.data.toList ++ [32] ++ la ++ [41])) ++ r = 40 :: (s.data.toList ++ (32 :: (la ++ (41 :: r)))) := by simp
    rw [e0]
    unfold readS
    dsimp only
    rw [if_pos rfl]
    obtain ⟨h1, b, m, e, h2, h3⟩ := conOk_word h
    obtain ⟨s1, s2⟩ := span_word (w := s.data.toList) (r := 32 :: (la ++ (41 :: r))) (fun c hc => wordB_stop (h1 c hc)) (goodR_cons (by decide))
    obtain ⟨c, m', e', h5, h6, h7, _⟩ := ha.head
    have hne : b ≠ 41 := fun h => by rw [h] at h2; revert h2; decide
    unfold readIn
    rw [if_neg (by rw [not_isAt41 (l := s.data.toList ++ _) (b := b) (m := m ++ _) (by rw [e]; rfl) hne]; decide)]
    rw [s1, s2]
    have hu : upHead (s.data.toList ++ (32 :: (la ++ (41 :: r)))) = true := by rw [e]; exact upHead_iff.2 ⟨h2, h3⟩
    have hc : isAt kColons (32 :: (la ++ (41 :: r))) = false := by
      rw [e']
      show isAt [32, 58, 58, 32] (32 :: c :: (m' ++ (41 :: r))) = false
      have h8 : ((58 : UInt8) == c) = false := by
        cases e8 : ((58 : UInt8) == c) with
        | false => rfl
        | true => exact absurd (eq_of_beq e8).symm h6
      simp [isAt, List.isPrefixOf, h8]
    rw [if_pos (by rw [hu, hc]; rfl)]
    show (match readS F (la ++ (41 :: r)) with | none => none | some (b, r2) => _) = _
    rw [ia _ (goodR_close r)]
    dsimp only
    rw [if_pos (by rw [isAt_one]; rfl)]
    rfl
theorem Right.inj {F G : Nat} {t u : PxT} {l : List UInt8} (h : Right F t l) (h' : Right G u l) : t = u := by
  have h1 := readS_right (h.mono (Nat.le_max_left F G)) [] goodR_nil
  have h2 := readS_right (h'.mono (Nat.le_max_right F G)) [] goodR_nil
  rw [h1] at h2
  injection h2 with h2
  injection h2

/-! ### A right value's nodes -/
theorem conShape_zero {s : ByteArray} {pb : Bool} (h : conShape s 0 pb = true) : con0 s := by
  unfold conShape at h
  split at h
  · rename_i h1
    simp only [Bool.or_eq_true, beq_iff_eq, ByteArray.toList_eq] at h1
    rcases h1 with (h1 | h1) | h1
    · exact .inl h1
    · exact .inr (.inl h1)
    · exact .inr (.inr (.inl h1))
  · split at h
    · simp at h
    · simp at h
      exact .inr (.inr (.inr h))
theorem conShape_one {s : ByteArray} {pb : Bool} (h : conShape s 1 pb = true) : ((s.toList == sCons) = true ∧ pb = true) ∨ ((s.toList == sCons) = false ∧ conOk s = true) := by
  unfold conShape at h
  split at h
  · simp at h
  · cases e : (s.toList == sCons) with
    | true => rw [e, if_pos rfl] at h; exact .inl ⟨rfl, by simpa using h⟩
    | false => rw [e, if_neg (by decide)] at h; exact .inr ⟨rfl, by simpa using h⟩

theorem isEmpty_eq {s : ByteArray} (h : s.toList.isEmpty = true) : s = ByteArray.empty := by
  rw [List.isEmpty_iff, ByteArray.toList_eq] at h
  exact ByteArray.ext (Array.ext' (by rw [h]; rfl))

theorem data_append (a b : ByteArray) : (a ++ b).data.toList = a.data.toList ++ b.data.toList := by rw [ByteArray.data_append, Array.toList_append]
set_option maxHeartbeats 1000000 in
theorem treeOf_right (l : List GDNode) (hU : Up l) (hok : ∀ (j : Nat) x, l[j]? = some x → nodeOk l x = true) : ∀ (f i : Nat), i < l.length → l.length ≤ i + f → Right f (treeOf l f i) (textT f (treeOf l f i)).data.toList := by
  intro f
  induction f using Nat.strongRecOn with
  | _ f ih =>
    intro i hi hf
    match f, ih, hf with
    | 0, _, hf => exact absurd hf (by omega)
    | f + 1, ih, hf =>
      obtain ⟨x, hx⟩ : ∃ x, l[i]? = some x := ⟨_, List.getElem?_eq_getElem hi⟩
      rw [treeOf_some hx]
      have hup := hU i x hx
      have hn := hok i x hx
      obtain ⟨kd, nn, s, ks⟩ := x
      rcases nodeOk_kind l kd nn s ks with ⟨e, h⟩ | ⟨e, h⟩ | ⟨e, h⟩ | ⟨e, h⟩ | ⟨e, h⟩ | ⟨_, _, _, _, _, h⟩
      all_goals rw [hn] at h; replace h := h.symm; (try simp only [Bool.and_eq_true, beq_iff_eq] at h)
      · obtain rfl : ks = [] := List.length_eq_zero_iff.1 (by omega)
        obtain rfl : s = ByteArray.empty := isEmpty_eq h.2.2
        obtain rfl : nn = 0 := h.2.1
        subst e
        show Right (f + 1) (PxT.mk 6 0 ByteArray.empty []) (textT (f + 1) (PxT.mk 6 0 ByteArray.empty [])).data.toList
        rw [textT_unit]
        exact .unit
      · obtain rfl : ks = [] := List.length_eq_zero_iff.1 (by omega)
        obtain rfl : nn = 0 := h.2
        subst e
        show Right (f + 1) (PxT.mk 2 0 s []) (textT (f + 1) (PxT.mk 2 0 s [])).data.toList
        rw [textT_str]
        exact .str
      · obtain rfl : ks = [] := List.length_eq_zero_iff.1 (by omega)
        obtain rfl : s = ByteArray.empty := isEmpty_eq h.2.1
        subst e
        show Right (f + 1) (PxT.mk 3 nn ByteArray.empty []) (textT (f + 1) (PxT.mk 3 nn ByteArray.empty [])).data.toList
        rw [textT_int]
        exact .int ((wrap63_eq nn).1 h.2.2)
      · obtain rfl : nn = 0 := h.1
        have hl := conShape_le h.2
        subst e
        match ks, hl with
        | [], _ =>
          have hc := conShape_zero h.2
          show Right (f + 1) (PxT.mk 4 0 s []) (textT (f + 1) (PxT.mk 4 0 s [])).data.toList
          rw [textT_nil]
          exact .con0 hc
        | [k], _ =>
          have hk := hup k (by simp)
          obtain ⟨q, rfl⟩ : ∃ q : Nat, k = q := ⟨k.toNat, by omega⟩
          rcases conShape_one h.2 with ⟨hs, hp⟩ | ⟨hs, hc⟩
          · obtain ⟨y, hy⟩ : ∃ y, l[q]? = some y := ⟨_, List.getElem?_eq_getElem (by omega)⟩
            have h5 : y.kind = 5 := by
              unfold pairOf kindAt at hp
              simp [hy] at hp
              exact hp
            match f, (show f ≠ 0 by omega), ih, hf with
            | f + 1, _, ih, hf =>
              have hn2 := hok q y hy
              have hup2 := hU q y hy
              obtain ⟨kd2, nn2, s2, ks2⟩ := y
              dsimp only at h5
              subst h5
              unfold nodeOk at hn2
              dsimp only at hn2
              rw [if_neg (by decide), if_neg (by decide), if_neg (by decide), if_pos rfl] at hn2
              simp only [Bool.and_eq_true, beq_iff_eq] at hn2
              obtain ⟨h6, rfl, h7⟩ := hn2
              obtain rfl : s2 = ByteArray.empty := isEmpty_eq h7
              obtain rfl : s = ⟨sCons.toArray⟩ := by
                have := eq_of_beq hs
                rw [ByteArray.toList_eq] at this
                exact ByteArray.ext (Array.ext' this)
              match ks2, h6, hup2 with
              | [p, q2], _, hup2 =>
                have hp1 := hup2 p (by simp)
                have hp2 := hup2 q2 (by simp)
                have e1 : treeOf l (f + 1) ((q : Int).toNat) = .mk 5 0 ByteArray.empty [treeOf l f p.toNat, treeOf l f q2.toNat] := by
                  rw [Int.toNat_natCast, treeOf_some hy]; rfl
                have r1 := ih f (by omega) p.toNat (by omega) (by omega)
                have r2 := ih f (by omega) q2.toNat (by omega) (by omega)
                show Right (f + 2) (PxT.mk 4 0 ⟨sCons.toArray⟩ [treeOf l (f + 1) ((q : Int).toNat)]) (textT (f + 2) (PxT.mk 4 0 ⟨sCons.toArray⟩ [treeOf l (f + 1) ((q : Int).toNat)])).data.toList
                rw [e1, textT_cons _ _ _ _ _ _ _ hs]
                have r := Right.cons r1 r2
                have el : (bParen ++ textT f (treeOf l f p.toNat) ++ bColons ++ textT f (treeOf l f q2.toNat) ++ bClose).data.toList = 40 :: ((textT f (treeOf l f p.toNat)).data.toList ++ kColons ++ (textT f (treeOf l f q2.toNat)).data.toList ++ [41]) := by
                  simp only [data_append]; rfl
                rw [el]
                exact r.succ
              | [], h6, _ => simp at h6
              | [_], h6, _ => simp at h6
              | _ :: _ :: _ :: _, h6, _ => simp at h6; omega
          · have r1 := ih f (by omega) q (by omega) (by omega)
            show Right (f + 1) (PxT.mk 4 0 s [treeOf l f ((q : Int).toNat)]) (textT (f + 1) (PxT.mk 4 0 s [treeOf l f ((q : Int).toNat)])).data.toList
            rw [Int.toNat_natCast, textT_con _ _ _ _ hs]
            have r := Right.con1 hc r1
            have el : (bParen ++ s ++ bSpace ++ textT f (treeOf l f q) ++ bClose).data.toList = 40 :: (s.data.toList ++ [32] ++ (textT f (treeOf l f q)).data.toList ++ [41]) := by
              simp only [data_append]; rfl
            rw [el]
            exact r
        | _ :: _ :: _, hl => simp at hl; omega
      · match ks, h.1 with
        | [a, b], _ =>
          have hp1 := hup a (by simp)
          have hp2 := hup b (by simp)
          obtain rfl : s = ByteArray.empty := isEmpty_eq h.2.2
          obtain rfl : nn = 0 := h.2.1
          subst e
          have r1 := ih f (by omega) a.toNat (by omega) (by omega)
          have r2 := ih f (by omega) b.toNat (by omega) (by omega)
          show Right (f + 1) (PxT.mk 5 0 ByteArray.empty [treeOf l f a.toNat, treeOf l f b.toNat]) (textT (f + 1) (PxT.mk 5 0 ByteArray.empty [treeOf l f a.toNat, treeOf l f b.toNat])).data.toList
          rw [textT_pair]
          have r := Right.pair r1 r2
          have el : (bParen ++ textT f (treeOf l f a.toNat) ++ bComma ++ textT f (treeOf l f b.toNat) ++ bClose).data.toList = 40 :: ((textT f (treeOf l f a.toNat)).data.toList ++ kComma ++ (textT f (treeOf l f b.toNat)).data.toList ++ [41]) := by
            simp only [data_append]; rfl
          rw [el]
          exact r
        | [], h => simp at h
        | [_], h => simp at h
        | _ :: _ :: _ :: _, h => simp at h; omega
      · cases h
theorem data_right {d : GData} (h : dataOk d = true) : Right d.nodes.length (treeOf d.nodes d.nodes.length 0) (dataText d).data.toList := by
  obtain ⟨hU, h0, hL⟩ := dataOk_up h
  unfold dataText
  rw [if_pos h]
  exact treeOf_right d.nodes hU (dataOk_nodes h) d.nodes.length 0 h0 (by omega)

end Go.Proofs.Ytpblhonnknmjjaa

/- The program's reader reads a right value's text back; both readers agree on texts that are drawn. -/
namespace Go.Proofs.Ytpblhonnknmjjaa
open Go.RowKit
set_option linter.unusedVariables false
set_option linter.unusedSimpArgs false

theorem span_gen {P : UInt8 → Bool} : ∀ {w r : List UInt8}, (∀ b ∈ w, P b = true) → (∀ b m, r = b :: m → P b = false) → (w ++ r).takeWhile P = w
  | [], r, _, h => by
    cases r with
    | nil => rfl
    | cons b l => simp [h b l rfl]
  | c :: w, r, h0, h => by
    have ih := span_gen (w := w) (r := r) (fun b hb => h0 b (by simp [hb])) h
    rw [List.cons_append, List.takeWhile_cons, if_pos (h0 c (by simp)), ih]
theorem stop_cases {b : UInt8} (h : stopB b = true) : b = 32 ∨ b = 44 ∨ b = 41 ∨ b = 40 := by
  unfold stopB at h
  simp only [Bool.or_eq_true, beq_iff_eq] at h
  rcases h with ((h | h) | h) | h
  · exact .inl h
  · exact .inr (.inl h)
  · exact .inr (.inr (.inl h))
  · exact .inr (.inr (.inr h))
theorem stop_wrd {b : UInt8} (h : stopB b = true) : wrdB b = false ∧ numB b = false := by
  rcases stop_cases h with rfl | rfl | rfl | rfl <;> exact ⟨by decide, by decide⟩
theorem numB_of {b : UInt8} (h : b.toNat = 45 ∨ (48 ≤ b.toNat ∧ b.toNat ≤ 57)) : numB b = true := by
  unfold numB digB
  rcases h with h | h
  · have : b = 45 := UInt8.toNat_inj.1 (by show b.toNat = 45; omega)
    rw [this]; rfl
  · simp
    right
    omega
theorem readI_num {F : Nat} {n : Int} (h : In63 n) {r : List UInt8} (hr : GoodR r) : readI (F + 1) (numL n ++ r) = some (tInt n, r) := by
  obtain ⟨h1, b, m, e, h2⟩ := numL_word h
  have hs := span_gen (P := numB) (w := numL n) (r := r) (fun b hb => numB_of (numL_bytes h b hb)) (fun b m e => (stop_wrd (hr b m e)).2)
  have hr0 : readI (F + 1) (numL n ++ r) = match textNum ((numL n ++ r).takeWhile numB) with
        | some n' => some (tInt n', (numL n ++ r).drop ((numL n ++ r).takeWhile numB).length)
        | none => none := by
    have n40 : b ≠ 40 := fun h => by rw [h] at h2; revert h2; decide
    have n91 : b ≠ 91 := fun h => by rw [h] at h2; revert h2; decide
    have n34 : b ≠ 34 := fun h => by rw [h] at h2; revert h2; decide
    rw [e]
    show readI (F + 1) (b :: (m ++ r)) = _
    unfold readI
    dsimp only
    rw [if_neg (by simp [isAt, List.isPrefixOf, Ne.symm n40]), if_neg (by simp [isAt, List.isPrefixOf, Ne.symm n91]), if_neg n40, if_neg n34, if_pos (numB_of h2)]
    rfl
  rw [hr0, hs, textNum_num h]
  dsimp only
  rw [List.drop_left]
theorem nil_word : sNil = [91, 93] := rfl
theorem con0_nil {s : ByteArray} (h : s.data.toList = sNil) : s = ⟨#[91, 93]⟩ := ByteArray.ext (Array.ext' (by rw [h]; rfl))
theorem con0_wrd {s : ByteArray} (h : con0 s) (hn : s.data.toList ≠ sNil) : (∀ b ∈ s.data.toList, wrdB b = true) ∧ ∃ b l, s.data.toList = b :: l ∧ b ≠ 40 ∧ b ≠ 91 ∧ b ≠ 34 ∧ numB b = false := by
  rcases h with h | h | h | h
  · rw [h]; exact ⟨by decide, 116, _, rfl, by decide, by decide, by decide, by decide⟩
  · rw [h]; exact ⟨by decide, 102, _, rfl, by decide, by decide, by decide, by decide⟩
  · exact absurd h hn
  · obtain ⟨h1, b, l, e, h2, h3⟩ := conOk_word h
    have ne : ∀ (k : UInt8), ¬ (65 ≤ k.toNat ∧ k.toNat ≤ 90) → b ≠ k := fun k hk e => hk (by rw [← e]; exact ⟨h2, h3⟩)
    refine ⟨h1, b, l, e, ne _ (by decide), ne _ (by decide), ne _ (by decide), ?_⟩
    have n45 := ne 45 (by decide)
    unfold numB digB
    rw [decide_eq_false n45]
    simp
    omega
theorem readI_con0 {F : Nat} {s : ByteArray} (h : con0 s) {r : List UInt8} (hr : GoodR r) : readI (F + 1) (s.data.toList ++ r) = some (tCon0 s, r) := by
  by_cases hn : s.data.toList = sNil
  · obtain rfl := con0_nil hn
    show readI (F + 1) (91 :: 93 :: r) = _
    unfold readI
    dsimp only
    rw [if_neg (by simp [isAt, List.isPrefixOf]), if_pos (by simp [isAt, List.isPrefixOf])]
    rfl
  · obtain ⟨h1, b, m, e, n40, n91, n34, hnb⟩ := con0_wrd h hn
    have hs := span_gen (P := wrdB) (w := s.data.toList) (r := r) h1 (fun b m e => (stop_wrd (hr b m e)).1)
    have hr0 : readI (F + 1) (s.data.toList ++ r) = if (s.data.toList ++ r).takeWhile wrdB = [] then none
        else some (tCon0 ⟨((s.data.toList ++ r).takeWhile wrdB).toArray⟩, (s.data.toList ++ r).drop ((s.data.toList ++ r).takeWhile wrdB).length) := by
      rw [e]
      show readI (F + 1) (b :: (m ++ r)) = _
      unfold readI
      dsimp only
      rw [if_neg (by simp [isAt, List.isPrefixOf, Ne.symm n40]), if_neg (by simp [isAt, List.isPrefixOf, Ne.symm n91]), if_neg n40, if_neg n34, if_neg (by rw [hnb]; decide)]
      rfl
    rw [hr0, hs, if_neg (by rw [e]; simp), List.drop_left]
theorem readI_par {F : Nat} {c : UInt8} {m : List UInt8} (h : c ≠ 41) : readI (F + 1) (40 :: c :: m) = insideI (readI F) (c :: m) := by
  conv => lhs; unfold readI
  dsimp only
  rw [if_neg (by simp [isAt, List.isPrefixOf, Ne.symm h]), if_neg (by simp [isAt, List.isPrefixOf]), if_pos rfl]
theorem Right.pos {F : Nat} {t : PxT} {l : List UInt8} (h : Right F t l) : ∃ G, F = G + 1 := by cases h <;> exact ⟨_, rfl⟩
theorem no_colons {c : UInt8} {m : List UInt8} (h : c ≠ 58) : isAt kColons (32 :: c :: m) = false := by
  simp [isAt, kColons, List.isPrefixOf, Ne.symm h]
theorem no_close {c : UInt8} {m : List UInt8} (h : c ≠ 41) : isAt [41] (c :: m) = false := by simp [isAt, List.isPrefixOf, Ne.symm h]
theorem readI_right {F : Nat} {t : PxT} {l : List UInt8} (h : Right F t l) : ∀ r : List UInt8, GoodR r → readI F (l ++ r) = some (t, r) := by
  induction h with
  | @int F n h => exact fun r hr => readI_num h hr
  | @str F s =>
    intro r hr
    rw [quoteS_list]
    show readI (F + 1) (34 :: ((s.data.toList.flatMap quoteB ++ [34]) ++ r)) = _
    unfold readI
    dsimp only
    rw [if_neg (by simp [isAt, List.isPrefixOf]), if_neg (by simp [isAt, List.isPrefixOf]), if_neg (by decide), if_pos rfl, List.append_assoc, List.singleton_append]
    unfold strR
    rw [scanQ_quote]
    dsimp only
    rw [← quoteS_list, unquote_quote]
  | @unit F =>
    intro r hr
    show readI (F + 1) (40 :: (41 :: r)) = _
    unfold readI
    dsimp only
    rw [if_pos (by simp [isAt, List.isPrefixOf])]
    rfl
  | @con0 F s h => exact fun r hr => readI_con0 h hr
  | @pair F a b la lb ha hb ia ib =>
    intro r hr
    have e0 : (40 :: (la ++ kComma ++ lb ++ [41])) ++ r = 40 :: (la ++ (kComma ++ (lb ++ (41 :: r)))) := by simp
    rw [e0]
    obtain ⟨c, m, e, h1, _⟩ := ha.head
    have e1 : la ++ (kComma ++ (lb ++ (41 :: r))) = c :: (m ++ (kComma ++ (lb ++ (41 :: r)))) := by rw [e]; rfl
    rw [e1, readI_par h1, ← e1]
    unfold insideI
    rw [ia _ (goodR_comma _)]
    dsimp only
    rw [if_neg (show ¬ isAt kColons (kComma ++ (lb ++ 41 :: r)) = true from fun h => by cases h), if_pos (isAt_self _ _)]
    show (match readI F (lb ++ (41 :: r)) with | none => none | some (b, r2) => _) = _
    rw [ib _ (goodR_close r)]
    dsimp only
    rw [if_pos (by rw [isAt_one]; rfl)]
    rfl
  | @cons F a b la lb ha hb ia ib =>
    intro r hr
    have e0 : (40 :: (la ++ kColons ++ lb ++ [41])) ++ r = 40 :: (la ++ (kColons ++ (lb ++ (41 :: r)))) := by simp
    rw [e0]
    obtain ⟨c, m, e, h1, _⟩ := ha.head
    have e1 : la ++ (kColons ++ (lb ++ (41 :: r))) = c :: (m ++ (kColons ++ (lb ++ (41 :: r)))) := by rw [e]; rfl
    rw [e1, readI_par h1, ← e1]
    unfold insideI
    rw [ia _ (goodR_colons _)]
    dsimp only
    rw [if_pos (isAt_self _ _)]
    show (match readI F (lb ++ (41 :: r)) with | none => none | some (b, r2) => _) = _
    rw [ib _ (goodR_close r)]
    dsimp only
    rw [if_pos (by rw [isAt_one]; rfl)]
    rfl
  | @con1 F s a la h ha ia =>
    intro r hr
    have e0 : (40 :: (s.data.toList ++ [32] ++ la ++ [41])) ++ r = 40 :: (s.data.toList ++ (32 :: (la ++ (41 :: r)))) := by simp
    rw [e0]
    obtain ⟨h1, b, m, e, h2, h3⟩ := conOk_word h
    obtain ⟨G, rfl⟩ := ha.pos
    have hne : b ≠ 41 := fun h => by rw [h] at h2; revert h2; decide
    have e1 : s.data.toList ++ (32 :: (la ++ (41 :: r))) = b :: (m ++ (32 :: (la ++ (41 :: r)))) := by rw [e]; rfl
    rw [e1, readI_par hne, ← e1]
    obtain ⟨c, m', e', h5, h6, h7, _⟩ := ha.head
    have hu : upHead (s.data.toList ++ (32 :: (la ++ (41 :: r)))) = true := by rw [e]; exact upHead_iff.2 ⟨h2, h3⟩
    unfold insideI
    rw [readI_con0 (.inr (.inr (.inr h))) (goodR_cons (by decide))]
    dsimp only
    rw [if_neg (by rw [show (32 :: (la ++ 41 :: r) : List UInt8) = 32 :: c :: (m' ++ 41 :: r) by rw [e']; rfl, no_colons h6]; decide), if_neg (by simp [isAt, kComma, List.isPrefixOf]), if_pos (by rw [hu]; simp [isAt, List.isPrefixOf])]
    show (match readI (G + 1) (la ++ (41 :: r)) with | none => none | some (b, r2) => _) = _
    rw [ia _ (goodR_close r)]
    dsimp only
    rw [if_pos (by rw [isAt_one]; rfl)]
    rfl
end Go.Proofs.Ytpblhonnknmjjaa
