/- Parts of the proof, merged: Ri5, RiR, RiA. -/
import Derived.Test.YtpblhonnknmjjaaFd024
/- The program's reader of values: value. -/
namespace Go.Proofs.Ytpblhonnknmjjaa
open Go.RowKit
set_option linter.unusedVariables false
set_option linter.unusedSimpArgs false
attribute [local go_sem] Ext.cell

theorem isAt40 {s : ByteArray} {p : Nat} (h : p < s.size) : isAt (⟨#[40]⟩ : ByteArray).data.toList (fromB s p) = decide (s[p] = 40) := by
  rw [fromB_cons h]
  show isAt [40] (s[p] :: _) = _
  rw [isAt_one]
  by_cases h1 : s[p] = 40
  · rw [h1]; rfl
  · rw [decide_eq_false h1, beq_eq_false_iff_ne]; exact fun e => h1 e.symm
theorem wrd_c (x : UInt8) (W : World) : Calls Try.prog 59 #[.int .u8 (x.toNat : Int)] W fun e w' => e = .returned (.bool (wrdB x)) ∧ W = w' := isWord_c (x.toNat : Int) W
theorem tw_nl (P : UInt8 → Bool) (s : ByteArray) (k : Nat) : (fromB s k).takeWhile P = tw P s k := rfl
set_option maxRecDepth 100000 in
set_option maxHeartbeats 16000000 in
theorem value_c (s : ByteArray) (b : Nat) (hs : s.size ≤ 1048576) : ∀ (f : Nat) (deep : Int), (f : Int) + deep = 101 → 0 ≤ deep → ∀ (p : Nat) (w : World), p ≤ s.size → RdI w b s p →
    Calls Try.prog 29 #[.pointer (some ⟨b, 0, none⟩), .int .i64 deep] w (RiPost b s (readI f (fromB s p)) (2 * f + 1) w)
  | f, deep, hf, hd0, p, w, hp, R => by
    have ih : ∀ f', f = f' + 1 → ∀ (q : Nat) (W : World), q ≤ s.size → RdI W b s q → Calls Try.prog 29 #[.pointer (some ⟨b, 0, none⟩), .int .i64 (deep + 1)] W (RiPost b s (readI f' (fromB s q)) (2 * f' + 1) W) := fun f' e => by
      subst e; exact value_c s b hs f' (deep + 1) (by omega) (by omega)
    replace ih := Lib.hid ih
    have hbl := R.lt
    obtain ⟨m, hmd⟩ : ∃ m, m = readI f (fromB s p) := ⟨_, rfl⟩
    rw [← hmd]
    obtain ⟨r_0, r_1⟩ := R.row.box2
    by_cases hgo : p < s.size ∧ f ≠ 0
    rotate_left
    · have hm : m = none := by
        by_cases hf0 : f = 0
        · rw [hmd, hf0]; rfl
        · rw [hmd, fromB_nil (by by_cases h : p < s.size; exact absurd ⟨h, hf0⟩ hgo; omega)]
          cases f <;> rfl
      have hways : decide (100 < deep) = true ∨ (decide (100 < deep) = false ∧ decide ((s.size : Int) ≤ (p : Int)) = true ∧ s.size ≤ p) := by
        by_cases hf0 : f = 0
        · exact .inl (decide_eq_true (by omega))
        · exact .inr ⟨decide_eq_false (by omega), decide_eq_true (by by_cases h : p < s.size; exact absurd ⟨h, hf0⟩ hgo; omega), by by_cases h : p < s.size; exact absurd ⟨h, hf0⟩ hgo; omega⟩
      replace hm := Lib.hid hm; replace hmd := Lib.hid hmd
      clear hgo
      rcases hways with d1 | ⟨d1, d2, d3⟩
      all_goals
        go_enter Try.func29, Try.ntmps29
        go_upto_region 1 with fail
        (refine wp_region_ext_lit (by kernel_rfl) (by kernel_rfl) ?_; (repeat (any_goals (first | go_big_quiet_step (fail) | quiet_step (fail) | (refine wpQuiet_step (fun K hK => ?_); go_simp; split <;> (refine hK _ ?_; clear hK K))))); all_goals (refine wpQuiet_nil ?_; rintro w1 ⟨⟨_, hb1⟩, rfl⟩))
        all_goals first | (exfalso; omega) | skip
        all_goals go_wp2_with fail
        all_goals go_returns
        all_goals exact .inr ⟨none, p, rfl, R.below hb1, hp, hm.out, RdF.of hb1 (by omega)⟩
    obtain ⟨hlt, hf0⟩ := hgo
    obtain ⟨f', rfl⟩ : ∃ f', f = f' + 1 := ⟨f - 1, by omega⟩
    have d1 : decide (100 < deep) = false := decide_eq_false (by omega)
    have d2 : decide ((s.size : Int) ≤ (p : Int)) = false := decide_eq_false (by omega)
    have ne : ∀ (x c : UInt8), (x.toNat : Int) ≠ (c.toNat : Int) → x ≠ c := fun x c h e => h (by rw [e])
    have eq : ∀ (x c : UInt8), (x.toNat : Int) = (c.toNat : Int) → x = c := fun x c h => UInt8.toNat_inj.1 (by omega)
    have hm0 : m = if isAt [40, 41] (fromB s p) then some (tUnit, (fromB s p).drop 2)
      else if isAt [91, 93] (fromB s p) then some (tCon0 ⟨#[91, 93]⟩, (fromB s p).drop 2)
      else if s[p] = 40 then insideI (readI f') (fromB s (p + 1))
      else if s[p] = 34 then strR (fromB s (p + 1))
      else if numB s[p] then match textNum (tw numB s p) with
        | some n => some (tInt n, (fromB s p).drop (tw numB s p).length)
        | none => none
      else if tw wrdB s p = [] then none
      else some (tCon0 ⟨(tw wrdB s p).toArray⟩, (fromB s p).drop (tw wrdB s p).length) := by
      rw [hmd]
      unfold tw
      rw [fromB_cons hlt]
      rfl
    have h40 := isAt40 hlt
    replace hmd := Lib.hid hmd; replace hm0 := Lib.hid hm0; replace h40 := Lib.hid h40
    go_enter Try.func29, Try.ntmps29
    go_upto_region 1 with fail
    (refine wp_region_ext_lit (by kernel_rfl) (by kernel_rfl) ?_; (repeat (any_goals (first | go_big_quiet_step (fail) | quiet_step (fail) | (refine wpQuiet_step (fun K hK => ?_); go_simp; split <;> (refine hK _ ?_; clear hK K))))); all_goals (refine wpQuiet_nil ?_; rintro w1 ⟨⟨_, hb1⟩, rfl⟩))
    have R1 := R.below hb1
    have F1 := RdF.of hb1 (by omega : b ≤ w.heap.size)
    clear r_0 r_1
    obtain ⟨r_0, r_1⟩ := R1.row.box2
    have hbl1 := R1.lt
    go_upto_region 3 with fail
    (refine wp_region_ext_lit (by kernel_rfl) (by kernel_rfl) ?_; (repeat (any_goals (first | go_big_quiet_step (fail) | quiet_step (fail) | (refine wpQuiet_step (fun K hK => ?_); go_simp; split <;> (refine hK _ ?_; clear hK K))))); all_goals (refine wpQuiet_nil ?_; rintro w2 ⟨⟨_, hb2⟩, rfl⟩))
    have R2 := R1.below hb2
    have F2 := F1.trans (RdF.of hb2 (by omega))
    clear r_0 r_1
    go_upto_region 4 with fail
    cases h1 : isAt (⟨#[40, 41]⟩ : ByteArray).data.toList (fromB s p)
    rotate_left
    · have hm : m = some (tUnit, fromB s (p + 2)) := by rw [hm0.out, if_pos (show isAt [40, 41] (fromB s p) = true from h1), fromB_drop]
      have hp2 : p + 2 ≤ s.size := at_le (t := ⟨#[40, 41]⟩) (by decide) h1
      have hwf : (PxT.mk 6 0 ⟨#[]⟩ []).wf := wf0 (k := 6) (by omega) (by decide)
      replace hm := Lib.hid hm
      go_wp2_with (go_at_call 52; (with_reducible refine (take_c s ⟨#[40, 41]⟩ p b hs (by decide) (by omega) _ R2).mono ?_); rintro e w3 ⟨rfl, R3, F3⟩; rw [h1] at R3; replace R3 : RdI w3 b s (p + 2) := R3)
      have F3 := F2.trans F3
      have hb9 : Below w3.heap.size w3 (w3.alloc (.cells #[.int .i64 6, .int .i64 0, .string ⟨#[]⟩, .slice none 0 0] 82)) := by go_grown
      have hz9 := (F3).size
      go_returns
      exact .inl ⟨w3.heap.size, p + 2, _, rfl, px_mono (px_leaf (S := fun g => w.heap.size ≤ g) hwf (by show w.heap.size ≤ w3.heap.size; omega) (RowAt.box w3 #[.int .i64 6, .int .i64 0, .string ⟨#[]⟩, .slice none 0 0] _)) (by omega), Wr.box w3 #[.int .i64 6, .int .i64 0, .string ⟨#[]⟩, .slice none 0 0] _, (R3).below hb9, hp2, hm.out, (F3).trans (RdF.of hb9 (by have := (R3).lt; omega))⟩
    cases h2 : isAt (⟨#[91, 93]⟩ : ByteArray).data.toList (fromB s p)
    rotate_left
    · have hm : m = some (tCon0 ⟨#[91, 93]⟩, fromB s (p + 2)) := by rw [hm0.out, if_neg (by rw [show isAt [40, 41] (fromB s p) = false from h1]; decide), if_pos (show isAt [91, 93] (fromB s p) = true from h2), fromB_drop]
      have hp2 : p + 2 ≤ s.size := at_le (t := ⟨#[91, 93]⟩) (by decide) h2
      have hwf : (PxT.mk 4 0 ⟨#[91, 93]⟩ []).wf := wf0 (k := 4) (by omega) (by decide)
      replace hm := Lib.hid hm
      go_wp2_with (first
        | (go_at_call 52; (with_reducible refine (take_c s ⟨#[40, 41]⟩ p b hs (by decide) (by omega) _ R2).mono ?_); rintro e w3 ⟨rfl, R3, F3⟩; rw [h1] at R3; replace R3 : RdI w3 b s (p) := R3)
        | (go_at_call 52; (with_reducible refine (take_c s ⟨#[91, 93]⟩ p b hs (by decide) (by omega) _ R3).mono ?_); rintro e w4 ⟨rfl, R4, F4⟩; rw [h2] at R4; replace R4 : RdI w4 b s (p + 2) := R4))
      have F4 := (F2.trans F3).trans F4
      have hb9 : Below w4.heap.size w4 (w4.alloc (.cells #[.int .i64 4, .int .i64 0, .string ⟨#[91, 93]⟩, .slice none 0 0] 82)) := by go_grown
      have hz9 := (F4).size
      go_returns
      exact .inl ⟨w4.heap.size, p + 2, _, rfl, px_mono (px_leaf (S := fun g => w.heap.size ≤ g) hwf (by show w.heap.size ≤ w4.heap.size; omega) (RowAt.box w4 #[.int .i64 4, .int .i64 0, .string ⟨#[91, 93]⟩, .slice none 0 0] _)) (by omega), Wr.box w4 #[.int .i64 4, .int .i64 0, .string ⟨#[91, 93]⟩, .slice none 0 0] _, (R4).below hb9, hp2, hm.out, (F4).trans (RdF.of hb9 (by have := (R4).lt; omega))⟩
    have hm1 : m = if s[p] = 40 then insideI (readI f') (fromB s (p + 1))
      else if s[p] = 34 then strR (fromB s (p + 1))
      else if numB s[p] then match textNum (tw numB s p) with
        | some n => some (tInt n, (fromB s p).drop (tw numB s p).length)
        | none => none
      else if tw wrdB s p = [] then none
      else some (tCon0 ⟨(tw wrdB s p).toArray⟩, (fromB s p).drop (tw wrdB s p).length) := by
      rw [hm0.out, if_neg (by rw [show isAt [40, 41] (fromB s p) = false from h1]; decide), if_neg (by rw [show isAt [91, 93] (fromB s p) = false from h2]; decide)]
    replace hm1 := Lib.hid hm1
    go_upto_region 8 with (first
      | (go_at_call 52; (with_reducible refine (take_c s ⟨#[40, 41]⟩ p b hs (by decide) (by omega) _ R2).mono ?_); rintro e w3 ⟨rfl, R3, F3⟩; rw [h1] at R3; replace R3 : RdI w3 b s (p) := R3)
      | (go_at_call 52; (with_reducible refine (take_c s ⟨#[91, 93]⟩ p b hs (by decide) (by omega) _ R3).mono ?_); rintro e w4 ⟨rfl, R4, F4⟩; rw [h2] at R4; replace R4 : RdI w4 b s (p) := R4))
    have F4' := (F2.trans F3).trans F4
    clear h1 h2 F3 F4 R3 R2
    by_cases q40 : s[p] = 40
    · have h3 : isAt (⟨#[40]⟩ : ByteArray).data.toList (fromB s p) = true := by rw [h40.out]; exact decide_eq_true q40
      have hm : m = insideI (readI f') (fromB s (p + 1)) := by rw [hm1.out, if_pos q40]
      have hwd : IntKind.i64.wrap (deep + 1) = deep + 1 := IntWalk.i64_in _ (by omega)
      replace hm := Lib.hid hm; replace q40 := Lib.hid q40
      go_upto_region 9 with (go_at_call 52; (with_reducible refine (take_c s ⟨#[40]⟩ p b hs (by decide) (by omega) _ R4).mono ?_); rintro e w5 ⟨rfl, R5, F5⟩; rw [h3] at R5; replace R5 : RdI w5 b s (p + 1) := R5)
      clear h3
      have cI := inside_c s f' (p + 1) b (deep + 1) hs (by omega) w5 R5 (ih.out f' rfl)
      rw [← hm.out] at cI
      replace cI := Lib.hid cI
      have F5' := F4'.trans F5
      have hz5 := F5'.size
      go_wp2_with (go_at_call 53; (with_reducible refine (cI.out).mono ?_); rintro e w6 hE; rcases hE with ⟨q1, p1, ta, rfl, T6, WQ6, R6, hp1, hm1, F6⟩ | ⟨v1, p1, rfl, R6, hp1, hm1, F6⟩)
      · go_returns
        exact .inl ⟨q1, p1, ta, rfl, (px_mono T6 (by omega)).to (fun _ _ _ => rfl) (fun g hg _ => by omega), WQ6, R6, hp1, hm1, F5'.trans F6⟩
      · go_returns
        exact .inr ⟨v1, p1, rfl, R6, hp1, hm1, F5'.trans F6⟩
    have h3 : isAt (⟨#[40]⟩ : ByteArray).data.toList (fromB s p) = false := by rw [h40.out]; exact decide_eq_false q40
    go_upto_region 10 with (go_at_call 52; (with_reducible refine (take_c s ⟨#[40]⟩ p b hs (by decide) (by omega) _ R4).mono ?_); rintro e w5 ⟨rfl, R5, F5⟩; rw [h3] at R5; replace R5 : RdI w5 b s (p) := R5)
    clear h3
    have F5' := F4'.trans F5
    have hz5 := F5'.size
    by_cases q34 : (s[p].toNat : Int) = 34
    · have e1 : ((s[p].toNat : Int) == 34) = true := by rw [q34]; rfl
      have hq := eq s[p] 34 q34
      have hm : m = strR (fromB s (p + 1)) := by rw [hm1.out, if_neg q40, if_pos hq]
      have cI := text_c s p b hs hlt hq w5 R5
      rw [← hm] at cI
      replace hm := Lib.hid hm; replace hq := Lib.hid hq; replace q40 := Lib.hid q40; replace cI := Lib.hid cI
      clear q34
      go_wp2_with (go_at_call 54; (with_reducible refine (cI.out).mono ?_); rintro e w6 hE; rcases hE with ⟨q1, p1, ta, rfl, T6, WQ6, R6, hp1, hm1, F6⟩ | ⟨v1, p1, rfl, R6, hp1, hm1, F6⟩)
      · go_returns
        exact .inl ⟨q1, p1, ta, rfl, (px_mono T6 (by omega)).to (fun _ _ _ => rfl) (fun g hg _ => by omega), WQ6, R6, hp1, hm1, F5'.trans F6⟩
      · go_returns
        exact .inr ⟨v1, p1, rfl, R6, hp1, hm1, F5'.trans F6⟩
    have e1 : ((s[p].toNat : Int) == 34) = false := by rw [beq_eq_false_iff_ne]; exact q34
    have hm2 : m = if numB s[p] then match textNum (tw numB s p) with
        | some n => some (tInt n, fromB s (p + (tw numB s p).length))
        | none => none
      else if tw wrdB s p = [] then none
      else some (tCon0 ⟨(tw wrdB s p).toArray⟩, fromB s (p + (tw wrdB s p).length)) := by
      rw [hm1.out, if_neg q40, if_neg (ne s[p] 34 q34), fromB_drop, fromB_drop]
    have hnum : numB s[p] = (((s[p].toNat : Int) == 45) || digB s[p].toNat) := by
      have e45 : decide (s[p] = 45) = ((s[p].toNat : Int) == 45) := by
        by_cases h : s[p] = 45
        · rw [h]; rfl
        · rw [decide_eq_false h]
          have : (s[p].toNat : Int) ≠ 45 := fun e => h (eq s[p] 45 e)
          rw [beq_eq_false_iff_ne.2 this]
      unfold numB; rw [e45]
    have c1 := fun W => isDigit_c (s[p].toNat : Int) W
    have cN := run_c s p b numB 58 hs hp (fun x W => isNum_c x W) (fun args w => by kernel_rfl) w5 R5
    have cW := run_c s p b wrdB 59 hs hp (fun x W => wrd_c x W) (fun args w => by kernel_rfl) w5 R5
    have hlN := tw_le numB s hp
    have hlW := tw_le wrdB s hp
    generalize tw numB s p = ln at *
    generalize tw wrdB s p = lw at *
    obtain ⟨ns, hns⟩ : ∃ ns : ByteArray, ns = ⟨ln.toArray⟩ := ⟨_, rfl⟩
    have hnd : ns.data.toList = ln := by rw [hns]
    have hnz : ns.size = ln.length := by rw [← hnd]; rfl
    obtain ⟨ws, hws⟩ : ∃ ns : ByteArray, ns = ⟨lw.toArray⟩ := ⟨_, rfl⟩
    have hwd : ws.data.toList = lw := by rw [hws]
    have hwz : ws.size = lw.length := by rw [← hwd]; rfl
    rw [← hns] at cN
    rw [← hws] at cW hm2
    have cT := fun W => impl_TextNum_c ns (show ns.size ≤ 9223372036854775807 by omega) W
    rw [hnd] at cT
    have hti : ∀ n, textNum ln = some n → In63 n := fun n h => (textNum_some.1 h).1
    obtain ⟨tn, htn⟩ : ∃ tn : Option Int → Option (PxT × List UInt8), tn = fun u => match u with
          | some n => some (tInt n, fromB s (p + ln.length))
          | none => none := ⟨_, rfl⟩
    replace hm2 : m = if numB s[p] then tn (textNum ln) else if lw = [] then none else some (tCon0 ws, fromB s (p + lw.length)) := by rw [htn]; exact hm2
    clear hmd hm0 hm1
    generalize textNum ln = u at *
    replace hm2 := Lib.hid hm2; replace q40 := Lib.hid q40; replace cT := Lib.hid cT; replace cN := Lib.hid cN; replace cW := Lib.hid cW; replace hti := Lib.hid hti
    replace hns := Lib.hid hns; replace hnd := Lib.hid hnd; replace hws := Lib.hid hws; replace hwd := Lib.hid hwd; replace hnz := Lib.hid hnz; replace htn := Lib.hid htn
    clear q34
    have hnum3 : (((s[p].toNat : Int) == 45) = true ∧ numB s[p] = true) ∨ (((s[p].toNat : Int) == 45) = false ∧ digB s[p].toNat = numB s[p]) := by
      cases h : ((s[p].toNat : Int) == 45)
      · exact .inr ⟨rfl, by rw [hnum, h]; rfl⟩
      · exact .inl ⟨rfl, by rw [hnum, h]; rfl⟩
    clear hnum
    obtain ⟨nb, hnb⟩ : ∃ nb, nb = numB s[p] := ⟨_, rfl⟩
    rw [← hnb] at hnum3 hm2
    clear hnb
    cases nb
    · obtain ⟨e2, e3⟩ : ((s[p].toNat : Int) == 45) = false ∧ digB s[p].toNat = false := by
        rcases hnum3 with ⟨_, h⟩ | h
        · cases h
        · exact h
      clear hnum3
      rw [e3] at c1
      have hm3 : m = if lw = [] then none else some (tCon0 ws, fromB s (p + lw.length)) := hm2.out
      replace hm3 := Lib.hid hm3
      clear hm2
      have hwL : lw = [] ∨ (lw ≠ [] ∧ ws.toList.isEmpty = false) := by
        by_cases h : lw = []
        · exact .inl h
        · refine .inr ⟨h, ?_⟩
          rw [ByteArray.toList_eq, hwd.out]
          cases lw with
          | nil => exact absurd rfl h
          | cons x l => rfl
      have hwf : (PxT.mk 4 0 ws []).wf := wf0 (k := 4) (by omega) (by omega)
      replace hwz := Lib.hid hwz
      rcases hwL with hl | ⟨hl, e4⟩
      · have hm : m = none := by rw [hm3.out, if_pos hl]
        have hwe : ws = ⟨#[]⟩ := by rw [hws.out, hl]
        subst hwe
        replace hm := Lib.hid hm
        replace hl := Lib.hid hl
        go_wp2_with (first
          | (go_at_call 55; (with_reducible refine (c1 _).mono ?_); rintro e w6 ⟨rfl, rfl⟩)
          | (go_at_call 57; (with_reducible refine (cW.out).mono ?_); rintro e w6 ⟨rfl, R6, F6⟩))
        have hb9 : Below w6.heap.size w6 (w6.alloc (.cells #[.int .i64 4, .int .i64 0, .string ⟨#[]⟩, .slice none 0 0] 82)) := by go_grown
        go_returns
        exact .inr ⟨some ⟨w6.heap.size, 0, none⟩, p + lw.length, rfl, R6.below hb9, hlW, hm.out, (F5'.trans F6).trans (RdF.of hb9 (by have := R6.lt; omega))⟩
      · have hm : m = some (tCon0 ws, fromB s (p + lw.length)) := by rw [hm3.out, if_neg hl]
        replace hm := Lib.hid hm; replace hwf := Lib.hid hwf; replace hl := Lib.hid hl
        go_wp2_with (first
          | (go_at_call 55; (with_reducible refine (c1 _).mono ?_); rintro e w6 ⟨rfl, rfl⟩)
          | (go_at_call 57; (with_reducible refine (cW.out).mono ?_); rintro e w6 ⟨rfl, R6, F6⟩))
        have hb9 : Below w6.heap.size w6 (w6.alloc (.cells #[.int .i64 4, .int .i64 0, .string ws, .slice none 0 0] 82)) := by go_grown
        have hz9 := (F5'.trans F6).size
        go_returns
        exact .inl ⟨w6.heap.size, p + lw.length, _, rfl, px_mono (px_leaf (S := fun g => w.heap.size ≤ g) hwf.out (by show w.heap.size ≤ w6.heap.size; omega) (RowAt.box w6 #[.int .i64 4, .int .i64 0, .string ws, .slice none 0 0] _)) (by omega), Wr.box w6 #[.int .i64 4, .int .i64 0, .string ws, .slice none 0 0] _, R6.below hb9, hlW, hm.out, (F5'.trans F6).trans (RdF.of hb9 (by have := R6.lt; omega))⟩
    · have hm3 : m = tn u := hm2.out
      replace hm3 := Lib.hid hm3
      clear hm2
      rcases hnum3 with ⟨e2, _⟩ | ⟨e2, e3⟩
      · cases u with
        | none =>
          have hm : m = none := by rw [hm3.out, htn.out]
          replace cT : Hid (∀ W, Calls Try.prog 56 #[.string ns] W fun e w' => e = .returned (.tuple #[.int .i64 0, .bool false]) ∧ Below W.heap.size W w') := cT
          clear htn
          replace hm := Lib.hid hm
          go_wp2_with (first
            | (go_at_call 55; (with_reducible refine (c1 _).mono ?_); rintro e w6 ⟨rfl, rfl⟩)
            | (go_at_call 57; (with_reducible refine (cN.out).mono ?_); rintro e w6 ⟨rfl, R6, F6⟩)
            | (go_at_call 56; (with_reducible refine (cT.out _).mono ?_); rintro e w7 ⟨rfl, hb7⟩))
          have R7 := R6.below hb7
          have F7 := (F5'.trans F6).trans (RdF.of hb7 (by have := R6.lt; omega))
          have hb9 : Below w7.heap.size w7 (w7.alloc (.cells #[.int .i64 3, .int .i64 0, .string ⟨#[]⟩, .slice none 0 0] 82)) := by go_grown
          go_returns
          exact .inr ⟨some ⟨w7.heap.size, 0, none⟩, p + ln.length, rfl, R7.below hb9, hlN, hm.out, F7.trans (RdF.of hb9 (by have := R7.lt; omega))⟩
        | some n =>
          have hm : m = some (tInt n, fromB s (p + ln.length)) := by rw [hm3.out, htn.out]
          have hwf : (PxT.mk 3 n ⟨#[]⟩ []).wf := by
            have h := hti.out n rfl
            unfold In63 at h
            exact ⟨⟨by show _ ≤ (3 : Int); omega, by show (3 : Int) ≤ _; omega⟩, ⟨by show _ ≤ n; omega, by show n ≤ _; omega⟩, show 0 ≤ 9223372036854775807 by omega⟩
          replace cT : Hid (∀ W, Calls Try.prog 56 #[.string ns] W fun e w' => e = .returned (.tuple #[.int .i64 n, .bool true]) ∧ Below W.heap.size W w') := cT
          clear htn
          replace hm := Lib.hid hm; replace hwf := Lib.hid hwf
          go_wp2_with (first
            | (go_at_call 55; (with_reducible refine (c1 _).mono ?_); rintro e w6 ⟨rfl, rfl⟩)
            | (go_at_call 57; (with_reducible refine (cN.out).mono ?_); rintro e w6 ⟨rfl, R6, F6⟩)
            | (go_at_call 56; (with_reducible refine (cT.out _).mono ?_); rintro e w7 ⟨rfl, hb7⟩))
          have R7 := R6.below hb7
          have F7 := (F5'.trans F6).trans (RdF.of hb7 (by have := R6.lt; omega))
          have hz9 := F7.size
          have hb9 : Below w7.heap.size w7 (w7.alloc (.cells #[.int .i64 3, .int .i64 n, .string ⟨#[]⟩, .slice none 0 0] 82)) := by go_grown
          go_returns
          exact .inl ⟨w7.heap.size, p + ln.length, _, rfl, px_mono (px_leaf (S := fun g => w.heap.size ≤ g) hwf.out (by show w.heap.size ≤ w7.heap.size; omega) (RowAt.box w7 #[.int .i64 3, .int .i64 n, .string ⟨#[]⟩, .slice none 0 0] _)) (by omega), Wr.box w7 #[.int .i64 3, .int .i64 n, .string ⟨#[]⟩, .slice none 0 0] _, R7.below hb9, hlN, hm.out, F7.trans (RdF.of hb9 (by have := R7.lt; omega))⟩
      · rw [e3] at c1
        cases u with
        | none =>
          have hm : m = none := by rw [hm3.out, htn.out]
          replace cT : Hid (∀ W, Calls Try.prog 56 #[.string ns] W fun e w' => e = .returned (.tuple #[.int .i64 0, .bool false]) ∧ Below W.heap.size W w') := cT
          clear htn
          replace hm := Lib.hid hm
          go_wp2_with (first
            | (go_at_call 55; (with_reducible refine (c1 _).mono ?_); rintro e w6 ⟨rfl, rfl⟩)
            | (go_at_call 57; (with_reducible refine (cN.out).mono ?_); rintro e w6 ⟨rfl, R6, F6⟩)
            | (go_at_call 56; (with_reducible refine (cT.out _).mono ?_); rintro e w7 ⟨rfl, hb7⟩))
          have R7 := R6.below hb7
          have F7 := (F5'.trans F6).trans (RdF.of hb7 (by have := R6.lt; omega))
          have hb9 : Below w7.heap.size w7 (w7.alloc (.cells #[.int .i64 3, .int .i64 0, .string ⟨#[]⟩, .slice none 0 0] 82)) := by go_grown
          go_returns
          exact .inr ⟨some ⟨w7.heap.size, 0, none⟩, p + ln.length, rfl, R7.below hb9, hlN, hm.out, F7.trans (RdF.of hb9 (by have := R7.lt; omega))⟩
        | some n =>
          have hm : m = some (tInt n, fromB s (p + ln.length)) := by rw [hm3.out, htn.out]
          have hwf : (PxT.mk 3 n ⟨#[]⟩ []).wf := by
            have h := hti.out n rfl
            unfold In63 at h
            exact ⟨⟨by show _ ≤ (3 : Int); omega, by show (3 : Int) ≤ _; omega⟩, ⟨by show _ ≤ n; omega, by show n ≤ _; omega⟩, show 0 ≤ 9223372036854775807 by omega⟩
          replace cT : Hid (∀ W, Calls Try.prog 56 #[.string ns] W fun e w' => e = .returned (.tuple #[.int .i64 n, .bool true]) ∧ Below W.heap.size W w') := cT
          clear htn
          replace hm := Lib.hid hm; replace hwf := Lib.hid hwf
          go_wp2_with (first
            | (go_at_call 55; (with_reducible refine (c1 _).mono ?_); rintro e w6 ⟨rfl, rfl⟩)
            | (go_at_call 57; (with_reducible refine (cN.out).mono ?_); rintro e w6 ⟨rfl, R6, F6⟩)
            | (go_at_call 56; (with_reducible refine (cT.out _).mono ?_); rintro e w7 ⟨rfl, hb7⟩))
          have R7 := R6.below hb7
          have F7 := (F5'.trans F6).trans (RdF.of hb7 (by have := R6.lt; omega))
          have hz9 := F7.size
          have hb9 : Below w7.heap.size w7 (w7.alloc (.cells #[.int .i64 3, .int .i64 n, .string ⟨#[]⟩, .slice none 0 0] 82)) := by go_grown
          go_returns
          exact .inl ⟨w7.heap.size, p + ln.length, _, rfl, px_mono (px_leaf (S := fun g => w.heap.size ≤ g) hwf.out (by show w.heap.size ≤ w7.heap.size; omega) (RowAt.box w7 #[.int .i64 3, .int .i64 n, .string ⟨#[]⟩, .slice none 0 0] _)) (by omega), Wr.box w7 #[.int .i64 3, .int .i64 n, .string ⟨#[]⟩, .slice none 0 0] _, R7.below hb9, hlN, hm.out, F7.trans (RdF.of hb9 (by have := R7.lt; omega))⟩
end Go.Proofs.Ytpblhonnknmjjaa

/- The program's reader reads a right value's text back; both readers agree on texts that are drawn. -/
namespace Go.Proofs.Ytpblhonnknmjjaa
open Go.RowKit
set_option linter.unusedVariables false
set_option linter.unusedSimpArgs false

theorem span_gen {P : UInt8 → Bool} : ∀ {w r : List UInt8}, (∀ b ∈ w, P b = true) → (∀ b m, r = b :: m → P b = false) → (w ++ r).takeWhile P = w
  | [], r, _, h => by
    cases r with
    | nil => rfl
    | cons b l => simp [h b l rfl]
  | c :: w, r, h0, h => by
    have ih := span_gen (w := w) (r := r) (fun b hb => h0 b (by simp [hb])) h
    rw [List.cons_append, List.takeWhile_cons, if_pos (h0 c (by simp)), ih]
theorem stop_cases {b : UInt8} (h : stopB b = true) : b = 32 ∨ b = 44 ∨ b = 41 ∨ b = 40 := by
  unfold stopB at h
  simp only [Bool.or_eq_true, beq_iff_eq] at h
  rcases h with ((h | h) | h) | h
  · exact .inl h
  · exact .inr (.inl h)
  · exact .inr (.inr (.inl h))
  · exact .inr (.inr (.inr h))
theorem stop_wrd {b : UInt8} (h : stopB b = true) : wrdB b = false ∧ numB b = false := by
  rcases stop_cases h with rfl | rfl | rfl | rfl <;> exact ⟨by decide, by decide⟩
theorem numB_of {b : UInt8} (h : b.toNat = 45 ∨ (48 ≤ b.toNat ∧ b.toNat ≤ 57)) : numB b = true := by
  unfold numB digB
  rcases h with h | h
  · have : b = 45 := UInt8.toNat_inj.1 (by show b.toNat = 45; omega)
    rw [this]; rfl
  · simp
    right
    omega
theorem readI_num {F : Nat} {n : Int} (h : In63 n) {r : List UInt8} (hr : GoodR r) : readI (F + 1) (numL n ++ r) = some (tInt n, r) := by
  obtain ⟨h1, b, m, e, h2⟩ := numL_word h
  have hs := span_gen (P := numB) (w := numL n) (r := r) (fun b hb => numB_of (numL_bytes h b hb)) (fun b m e => (stop_wrd (hr b m e)).2)
  have hr0 : readI (F + 1) (numL n ++ r) = match textNum ((numL n ++ r).takeWhile numB) with
        | some n' => some (tInt n', (numL n ++ r).drop ((numL n ++ r).takeWhile numB).length)
        | none => none := by
    have n40 : b ≠ 40 := fun h => by rw [h] at h2; revert h2; decide
    have n91 : b ≠ 91 := fun h => by rw [h] at h2; revert h2; decide
    have n34 : b ≠ 34 := fun h => by rw [h] at h2; revert h2; decide
    rw [e]
    show readI (F + 1) (b :: (m ++ r)) = _
    unfold readI
    dsimp only
    rw [if_neg (by simp [isAt, List.isPrefixOf, Ne.symm n40]), if_neg (by simp [isAt, List.isPrefixOf, Ne.symm n91]), if_neg n40, if_neg n34, if_pos (numB_of h2)]
    rfl
  rw [hr0, hs, textNum_num h]
  dsimp only
  rw [List.drop_left]
theorem nil_word : sNil = [91, 93] := rfl
theorem con0_nil {s : ByteArray} (h : s.data.toList = sNil) : s = ⟨#[91, 93]⟩ := ByteArray.ext (Array.ext' (by rw [h]; rfl))
theorem con0_wrd {s : ByteArray} (h : con0 s) (hn : s.data.toList ≠ sNil) : (∀ b ∈ s.data.toList, wrdB b = true) ∧ ∃ b l, s.data.toList = b :: l ∧ b ≠ 40 ∧ b ≠ 91 ∧ b ≠ 34 ∧ numB b = false := by
  rcases h with h | h | h | h
  · rw [h]; exact ⟨by decide, 116, _, rfl, by decide, by decide, by decide, by decide⟩
  · rw [h]; exact ⟨by decide, 102, _, rfl, by decide, by decide, by decide, by decide⟩
  · exact absurd h hn
  · obtain ⟨h1, b, l, e, h2, h3⟩ := conOk_word h
    have ne : ∀ (k : UInt8), ¬ (65 ≤ k.toNat ∧ k.toNat ≤ 90) → b ≠ k := fun k hk e => hk (by rw [← e]; exact ⟨h2, h3⟩)
    refine ⟨h1, b, l, e, ne _ (by decide), ne _ (by decide), ne _ (by decide), ?_⟩
    have n45 := ne 45 (by decide)
    unfold numB digB
    rw [decide_eq_false n45]
    simp
    omega
theorem readI_con0 {F : Nat} {s : ByteArray} (h : con0 s) {r : List UInt8} (hr : GoodR r) : readI (F + 1) (s.data.toList ++ r) = some (tCon0 s, r) := by
  by_cases hn : s.data.toList = sNil
  · obtain rfl := con0_nil hn
    show readI (F + 1) (91 :: 93 :: r) = _
    unfold readI
    dsimp only
    rw [if_neg (by simp [isAt, List.isPrefixOf]), if_pos (by simp [isAt, List.isPrefixOf])]
    rfl
  · obtain ⟨h1, b, m, e, n40, n91, n34, hnb⟩ := con0_wrd h hn
    have hs := span_gen (P := wrdB) (w := s.data.toList) (r := r) h1 (fun b m e => (stop_wrd (hr b m e)).1)
    have hr0 : readI (F + 1) (s.data.toList ++ r) = if (s.data.toList ++ r).takeWhile wrdB = [] then none
        else some (tCon0 ⟨((s.data.toList ++ r).takeWhile wrdB).toArray⟩, (s.data.toList ++ r).drop ((s.data.toList ++ r).takeWhile wrdB).length) := by
      rw [e]
      show readI (F + 1) (b :: (m ++ r)) = _
      unfold readI
      dsimp only
      rw [if_neg (by simp [isAt, List.isPrefixOf, Ne.symm n40]), if_neg (by simp [isAt, List.isPrefixOf, Ne.symm n91]), if_neg n40, if_neg n34, if_neg (by rw [hnb]; decide)]
      rfl
    rw [hr0, hs, if_neg (by rw [e]; simp), List.drop_left]
theorem readI_par {F : Nat} {c : UInt8} {m : List UInt8} (h : c ≠ 41) : readI (F + 1) (40 :: c :: m) = insideI (readI F) (c :: m) := by
  conv => lhs; unfold readI
  dsimp only
  rw [if_neg (by simp [isAt, List.isPrefixOf, Ne.symm h]), if_neg (by simp [isAt, List.isPrefixOf]), if_pos rfl]
theorem Right.pos {F : Nat} {t : PxT} {l : List UInt8} (h : Right F t l) : ∃ G, F = G + 1 := by cases h <;> exact ⟨_, rfl⟩
theorem no_colons {c : UInt8} {m : List UInt8} (h : c ≠ 58) : isAt kColons (32 :: c :: m) = false := by
  simp [isAt, kColons, List.isPrefixOf, Ne.symm h]
theorem no_close {c : UInt8} {m : List UInt8} (h : c ≠ 41) : isAt [41] (c :: m) = false := by simp [isAt, List.isPrefixOf, Ne.symm h]
theorem readI_right {F : Nat} {t : PxT} {l : List UInt8} (h : Right F t l) : ∀ r : List UInt8, GoodR r → readI F (l ++ r) = some (t, r) := by
  induction h with
  | @int F n h => exact fun r hr => readI_num h hr
  | @str F s =>
    intro r hr
    rw [quoteS_list]
    show readI (F + 1) (34 :: ((s.data.toList.flatMap quoteB ++ [34]) ++ r)) = _
    unfold readI
    dsimp only
    rw [if_neg (by simp [isAt, List.isPrefixOf]), if_neg (by simp [isAt, List.isPrefixOf]), if_neg (by decide), if_pos rfl, List.append_assoc, List.singleton_append]
    unfold strR
    rw [scanQ_quote]
    dsimp only
    rw [← quoteS_list, unquote_quote]
  | @unit F =>
    intro r hr
    show readI (F + 1) (40 :: (41 :: r)) = _
    unfold readI
    dsimp only
    rw [if_pos (by simp [isAt, List.isPrefixOf])]
    rfl
  | @con0 F s h => exact fun r hr => readI_con0 h hr
  | @pair F a b la lb ha hb ia ib =>
    intro r hr
    have e0 : (40 :: (la ++ kComma ++ lb ++ [41])) ++ r = 40 :: (la ++ (kComma ++ (lb ++ (41 :: r)))) := by simp
    rw [e0]
    obtain ⟨c, m, e, h1, _⟩ := ha.head
    have e1 : la ++ (kComma ++ (lb ++ (41 :: r))) = c :: (m ++ (kComma ++ (lb ++ (41 :: r)))) := by rw [e]; rfl
    rw [e1, readI_par h1, ← e1]
    unfold insideI
    rw [ia _ (goodR_comma _)]
    dsimp only
    rw [if_neg (show ¬ isAt kColons (kComma ++ (lb ++ 41 :: r)) = true from fun h => by cases h), if_pos (isAt_self _ _)]
    show (match readI F (lb ++ (41 :: r)) with | none => none | some (b, r2) => _) = _
    rw [ib _ (goodR_close r)]
    dsimp only
    rw [if_pos (by rw [isAt_one]; rfl)]
    rfl
  | @cons F a b la lb ha hb ia ib =>
    intro r hr
    have e0 : (40 :: (la ++ kColons ++ lb ++ [41])) ++ r = 40 :: (la ++ (kColons ++ (lb ++ (41 :: r)))) := by simp
    rw [e0]
    obtain ⟨c, m, e, h1, _⟩ := ha.head
    have e1 : la ++ (kColons ++ (lb ++ (41 :: r))) = c :: (m ++ (kColons ++ (lb ++ (41 :: r)))) := by rw [e]; rfl
    rw [e1, readI_par h1, ← e1]
    unfold insideI
    rw [ia _ (goodR_colons _)]
    dsimp only
    rw [if_pos (isAt_self _ _)]
    show (match readI F (lb ++ (41 :: r)) with | none => none | some (b, r2) => _) = _
    rw [ib _ (goodR_close r)]
    dsimp only
    rw [if_pos (by rw [isAt_one]; rfl)]
    rfl
  | @con1 F s a la h ha ia =>
    intro r hr
    have e0 : (40 :: (s.data.toList ++ [32] ++ la ++ [41])) ++ r = 40 :: (s.data.toList ++ (32 :: (la ++ (41 :: r)))) := by simp
    rw [e0]
    obtain ⟨h1, b, m, e, h2, h3⟩ := conOk_word h
    obtain ⟨G, rfl⟩ := ha.pos
    have hne : b ≠ 41 := fun h => by rw [h] at h2; revert h2; decide
    have e1 : s.data.toList ++ (32 :: (la ++ (41 :: r))) = b :: (m ++ (32 :: (la ++ (41 :: r)))) := by rw [e]; rfl
    rw [e1, readI_par hne, ← e1]
    obtain ⟨c, m', e', h5, h6, h7, _⟩ := ha.head
    have hu : upHead (s.data.toList ++ (32 :: (la ++ (41 :: r)))) = true := by rw [e]; exact upHead_iff.2 ⟨h2, h3⟩
    unfold insideI
    rw [readI_con0 (.inr (.inr (.inr h))) (goodR_cons (by decide))]
    dsimp only
    rw [if_neg (by rw [show (32 :: (la ++ 41 :: r) : List UInt8) = 32 :: c :: (m' ++ 41 :: r) by rw [e']; rfl, no_colons h6]; decide), if_neg (by simp [isAt, kComma, List.isPrefixOf]), if_pos (by rw [hu]; simp [isAt, List.isPrefixOf])]
    show (match readI (G + 1) (la ++ (41 :: r)) with | none => none | some (b, r2) => _) = _
    rw [ia _ (goodR_close r)]
    dsimp only
    rw [if_pos (by rw [isAt_one]; rfl)]
    rfl
end Go.Proofs.Ytpblhonnknmjjaa

/- Both readers agree on texts that are drawn. -/
namespace Go.Proofs.Ytpblhonnknmjjaa
open Go.RowKit
set_option linter.unusedVariables false
set_option linter.unusedSimpArgs false

theorem Right.of_readI {n : Nat} {t : PxT} {l : List UInt8} (h : Right n t l) : ∀ (F : Nat) (r : List UInt8), GoodR r → readI F (l ++ r) ≠ none → Right F t l := by
  induction h with
  | @int n k h => exact fun F r _ hr => match F, hr with
    | 0, hr => absurd rfl hr
    | F + 1, _ => .int h
  | @str n s => exact fun F r _ hr => match F, hr with
    | 0, hr => absurd rfl hr
    | F + 1, _ => .str
  | @unit n => exact fun F r _ hr => match F, hr with
    | 0, hr => absurd rfl hr
    | F + 1, _ => .unit
  | @con0 n s h => exact fun F r _ hr => match F, hr with
    | 0, hr => absurd rfl hr
    | F + 1, _ => .con0 h
  | @pair n a b la lb ha hb ia ib =>
    intro F r hg hr
    match F, hr with
    | 0, hr => exact absurd rfl hr
    | F + 1, hr =>
      have e0 : (40 :: (la ++ kComma ++ lb ++ [41])) ++ r = 40 :: (la ++ (kComma ++ (lb ++ (41 :: r)))) := by simp
      obtain ⟨c, m, e, h1, _⟩ := ha.head
      have e1 : la ++ (kComma ++ (lb ++ (41 :: r))) = c :: (m ++ (kComma ++ (lb ++ (41 :: r)))) := by rw [e]; rfl
      rw [e0, e1, readI_par h1, ← e1] at hr
      unfold insideI at hr
      have ra : Right F a la := ia F _ (goodR_comma _) fun h => hr (by rw [h])
      rw [readI_right ra _ (goodR_comma _)] at hr
      dsimp only at hr
      rw [if_neg (show ¬ isAt kColons (kComma ++ (lb ++ 41 :: r)) = true from fun h => by cases h), if_pos (isAt_self _ _)] at hr
      have rb : Right F b lb := ib F _ (goodR_close r) fun h => hr (by
        show (match readI F (lb ++ (41 :: r)) with | none => none | some (b, r2) => _) = _
        rw [h])
      exact .pair ra rb
  | @cons n a b la lb ha hb ia ib =>
    intro F r hg hr
    match F, hr with
    | 0, hr => exact absurd rfl hr
    | F + 1, hr =>
      have e0 : (40 :: (la ++ kColons ++ lb ++ [41])) ++ r = 40 :: (la ++ (kColons ++ (lb ++ (41 :: r)))) := by simp
      obtain ⟨c, m, e, h1, _⟩ := ha.head
      have e1 : la ++ (kColons ++ (lb ++ (41 :: r))) = c :: (m ++ (kColons ++ (lb ++ (41 :: r)))) := by rw [e]; rfl
      rw [e0, e1, readI_par h1, ← e1] at hr
      unfold insideI at hr
      have ra : Right F a la := ia F _ (goodR_colons _) fun h => hr (by rw [h])
      rw [readI_right ra _ (goodR_colons _)] at hr
      dsimp only at hr
      rw [if_pos (isAt_self _ _)] at hr
      have rb : Right F b lb := ib F _ (goodR_close r) fun h => hr (by
        show (match readI F (lb ++ (41 :: r)) with | none => none | some (b, r2) => _) = _
        rw [h])
      exact .cons ra rb
  | @con1 n s a la h ha ia =>
    intro F r hg hr
    match F, hr with
    | 0, hr => exact absurd rfl hr
    | F + 1, hr =>
      have e0 : (40 :: (s.data.toList ++ [32] ++ la ++ [41])) ++ r = 40 :: (s.data.toList ++ (32 :: (la ++ (41 :: r)))) := by simp
      obtain ⟨h1, b, m, e, h2, h3⟩ := conOk_word h
      have hne : b ≠ 41 := fun h => by rw [h] at h2; revert h2; decide
      have e1 : s.data.toList ++ (32 :: (la ++ (41 :: r))) = b :: (m ++ (32 :: (la ++ (41 :: r)))) := by rw [e]; rfl
      rw [e0, e1, readI_par hne, ← e1] at hr
      obtain ⟨c, m', e', h5, h6, h7, _⟩ := ha.head
      have hu : upHead (s.data.toList ++ (32 :: (la ++ (41 :: r)))) = true := by rw [e]; exact upHead_iff.2 ⟨h2, h3⟩
      unfold insideI at hr
      match F, hr with
      | 0, hr => exact absurd rfl hr
      | G + 1, hr =>
        rw [readI_con0 (.inr (.inr (.inr h))) (goodR_cons (by decide))] at hr
        dsimp only at hr
        rw [if_neg (by rw [show (32 :: (la ++ 41 :: r) : List UInt8) = 32 :: c :: (m' ++ 41 :: r) by rw [e']; rfl, no_colons h6]; decide), if_neg (by simp [isAt, kComma, List.isPrefixOf]), if_pos (by rw [hu]; simp [isAt, List.isPrefixOf])] at hr
        have ra : Right (G + 1) a la := ia (G + 1) _ (goodR_close r) fun h => hr (by
          show (match readI (G + 1) (la ++ (41 :: r)) with | none => none | some (b, r2) => _) = _
          rw [h])
        exact .con1 h ra
theorem readS_par {F : Nat} {l : List UInt8} : readS (F + 1) (40 :: l) = readIn (readS F) l := by
  conv => lhs; unfold readS
  dsimp only
  rw [if_pos rfl]
theorem Right.of_readS {n : Nat} {t : PxT} {l : List UInt8} (h : Right n t l) : ∀ (F : Nat) (r : List UInt8), GoodR r → readS F (l ++ r) ≠ none → Right F t l := by
  induction h with
  | @int n k h => exact fun F r _ hr => match F, hr with
    | 0, hr => absurd rfl hr
    | F + 1, _ => .int h
  | @str n s => exact fun F r _ hr => match F, hr with
    | 0, hr => absurd rfl hr
    | F + 1, _ => .str
  | @unit n => exact fun F r _ hr => match F, hr with
    | 0, hr => absurd rfl hr
    | F + 1, _ => .unit
  | @con0 n s h => exact fun F r _ hr => match F, hr with
    | 0, hr => absurd rfl hr
    | F + 1, _ => .con0 h
  | @pair n a b la lb ha hb ia ib =>
    intro F r hg hr
    match F, hr with
    | 0, hr => exact absurd rfl hr
    | F + 1, hr =>
      have e0 : (40 :: (la ++ kComma ++ lb ++ [41])) ++ r = 40 :: (la ++ (kComma ++ (lb ++ (41 :: r)))) := by simp
      rw [e0, readS_par] at hr
      obtain ⟨c, m, e, h1, _⟩ := ha.head
      unfold readIn at hr
      rw [if_neg (by rw [not_isAt41 (l := la ++ _) (b := c) (m := m ++ _) (by rw [e]; rfl) h1]; decide), if_neg (by rw [no_arg ha (goodR_comma _) (.inl rfl)]; decide)] at hr
      have ra : Right F a la := ia F _ (goodR_comma _) fun h => hr (by rw [h])
      rw [readS_right ra _ (goodR_comma _)] at hr
      dsimp only at hr
      rw [if_neg (show ¬ isAt kColons (kComma ++ (lb ++ 41 :: r)) = true from fun h => by cases h), if_pos (isAt_self _ _)] at hr
      have rb : Right F b lb := ib F _ (goodR_close r) fun h => hr (by
        show (match readS F (lb ++ (41 :: r)) with | none => none | some (b, r2) => _) = _
        rw [h])
      exact .pair ra rb
  | @cons n a b la lb ha hb ia ib =>
    intro F r hg hr
    match F, hr with
    | 0, hr => exact absurd rfl hr
    | F + 1, hr =>
      have e0 : (40 :: (la ++ kColons ++ lb ++ [41])) ++ r = 40 :: (la ++ (kColons ++ (lb ++ (41 :: r)))) := by simp
      rw [e0, readS_par] at hr
      obtain ⟨c, m, e, h1, _⟩ := ha.head
      unfold readIn at hr
      rw [if_neg (by rw [not_isAt41 (l := la ++ _) (b := c) (m := m ++ _) (by rw [e]; rfl) h1]; decide), if_neg (by rw [no_arg ha (goodR_colons _) (.inr (isAt_self _ _))]; decide)] at hr
      have ra : Right F a la := ia F _ (goodR_colons _) fun h => hr (by rw [h])
      rw [readS_right ra _ (goodR_colons _)] at hr
      dsimp only at hr
      rw [if_pos (isAt_self _ _)] at hr
      have rb : Right F b lb := ib F _ (goodR_close r) fun h => hr (by
        show (match readS F (lb ++ (41 :: r)) with | none => none | some (b, r2) => _) = _
        rw [h])
      exact .cons ra rb
  | @con1 n s a la h ha ia =>
    intro F r hg hr
    match F, hr with
    | 0, hr => exact absurd rfl hr
    | F + 1, hr =>
      have e0 : (40 :: (s.data.toList ++ [32] ++ la ++ [41])) ++ r = 40 :: (s.data.toList ++ (32 :: (la ++ (41 :: r)))) := by simp
      rw [e0, readS_par] at hr
      obtain ⟨h1, b, m, e, h2, h3⟩ := conOk_word h
      obtain ⟨s1, s2⟩ := span_word (w := s.data.toList) (r := 32 :: (la ++ (41 :: r))) (fun c hc => wordB_stop (h1 c hc)) (goodR_cons (by decide))
      obtain ⟨c, m', e', h5, h6, h7, _⟩ := ha.head
      have hne : b ≠ 41 := fun h => by rw [h] at h2; revert h2; decide
      have hu : upHead (s.data.toList ++ (32 :: (la ++ (41 :: r)))) = true := by rw [e]; exact upHead_iff.2 ⟨h2, h3⟩
      have hc : isAt kColons (32 :: (la ++ (41 :: r))) = false := by rw [e']; exact no_colons h6
      unfold readIn at hr
      rw [if_neg (by rw [not_isAt41 (l := s.data.toList ++ _) (b := b) (m := m ++ _) (by rw [e]; rfl) hne]; decide), s1, s2, if_pos (by rw [hu, hc]; rfl)] at hr
      have ra : Right F a la := ia F _ (goodR_close r) fun h => hr (by
        show (match readS F (la ++ (41 :: r)) with | none => none | some (b, r2) => _) = _
        rw [h])
      exact .con1 h ra
/-- What the program's TextData answers. -/
noncomputable def textDataI (s : ByteArray) : Option GData := match readI 101 (fromB s 0) with
  | some (t, []) => if dataText ⟨layT 203 0 t⟩ = s then some ⟨layT 203 0 t⟩ else none
  | _ => none
theorem fromB_zero (s : ByteArray) : fromB s 0 = s.data.toList := rfl
theorem drawn_right {d : GData} {s : ByteArray} (h : dataText d = s) (h0 : s.data.toList ≠ []) : ∃ n t, Right n t s.data.toList := by
  cases hd : dataOk d with
  | false =>
    exfalso
    unfold dataText at h
    rw [hd, if_neg (by decide)] at h
    rw [← h] at h0
    exact h0 rfl
  | true =>
    have h1 := data_right hd
    rw [h] at h1
    exact ⟨_, _, h1⟩
theorem text_agree (s : ByteArray) : textDataI s = textDataP s := by
  have hI : ∀ t, readI 101 (fromB s 0) = some (t, []) → dataText ⟨layT 203 0 t⟩ = s → readS 101 (fromB s 0) = some (t, []) := fun t h1 h2 => by
    rw [fromB_zero] at *
    have h0 : s.data.toList ≠ [] := fun h => by rw [h] at h1; cases h1
    obtain ⟨n, t', hr⟩ := drawn_right h2 h0
    have h3 := hr.of_readI 101 [] goodR_nil (by rw [List.append_nil, h1]; simp)
    have h4 := readI_right h3 [] goodR_nil
    rw [List.append_nil, h1] at h4
    have h5 := readS_right h3 [] goodR_nil
    rw [List.append_nil] at h5
    rw [h5, ← h4]
  have hS : ∀ t, readS 101 (fromB s 0) = some (t, []) → dataText ⟨layT 203 0 t⟩ = s → readI 101 (fromB s 0) = some (t, []) := fun t h1 h2 => by
    rw [fromB_zero] at *
    have h0 : s.data.toList ≠ [] := fun h => by rw [h] at h1; cases h1
    obtain ⟨n, t', hr⟩ := drawn_right h2 h0
    have h3 := hr.of_readS 101 [] goodR_nil (by rw [List.append_nil, h1]; simp)
    have h4 := readS_right h3 [] goodR_nil
    rw [List.append_nil, h1] at h4
    have h5 := readI_right h3 [] goodR_nil
    rw [List.append_nil] at h5
    rw [h5, ← h4]
  have some_iff : ∀ (o : Option (PxT × List UInt8)) (d : GData), (match o with
      | some (t, []) => if dataText ⟨layT 203 0 t⟩ = s then some (⟨layT 203 0 t⟩ : GData) else none
      | _ => none) = some d ↔ ∃ t, o = some (t, []) ∧ dataText ⟨layT 203 0 t⟩ = s ∧ d = ⟨layT 203 0 t⟩ := fun o d => by
    constructor
    · intro h
      match o, h with
      | some (t, []), h =>
        dsimp only at h
        split at h
        · rename_i h1
          exact ⟨t, rfl, h1, by injection h with h; exact h.symm⟩
        · cases h
      | some (t, _ :: _), h => cases h
      | none, h => cases h
    · rintro ⟨t, rfl, h1, rfl⟩
      dsimp only
      rw [if_pos h1]
  refine Option.ext fun d => ?_
  show (match readI 101 (fromB s 0) with
      | some (t, []) => if dataText ⟨layT 203 0 t⟩ = s then some (⟨layT 203 0 t⟩ : GData) else none
      | _ => none) = some d ↔ (match readS 101 (fromB s 0) with
      | some (t, []) => if dataText ⟨layT 203 0 t⟩ = s then some (⟨layT 203 0 t⟩ : GData) else none
      | _ => none) = some d
  rw [some_iff, some_iff]
  constructor
  · rintro ⟨t, h1, h2, h3⟩; exact ⟨t, hI t h1 h2, h2, h3⟩
  · rintro ⟨t, h1, h2, h3⟩; exact ⟨t, hS t h1 h2, h2, h3⟩
end Go.Proofs.Ytpblhonnknmjjaa
