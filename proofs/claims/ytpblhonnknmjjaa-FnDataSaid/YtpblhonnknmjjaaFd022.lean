/- Parts of the proof, merged: Rd5, Text9, Td. -/
import Derived.Test.YtpblhonnknmjjaaFd021
/- The reference's l21Read. -/
namespace Go.Proofs.Ytpblhonnknmjjaa
open Go.RowKit
set_option linter.unusedVariables false
set_option linter.unusedSimpArgs false
attribute [local go_sem] Ext.cell

theorem readS_nil (f : Nat) : readS f [] = none := by cases f <;> rfl
theorem readS_40 {f : Nat} {l : List UInt8} : readS (f + 1) (40 :: l) = readIn (readS f) l := by
  conv => lhs; unfold readS
  dsimp only
  rw [if_pos rfl]
theorem readS_34 {f : Nat} {l : List UInt8} : readS (f + 1) (34 :: l) = strR l := by
  conv => lhs; unfold readS
  dsimp only
  rw [if_neg (by decide), if_pos rfl]
  rfl
theorem readS_word {f : Nat} {x : UInt8} {l : List UInt8} (h1 : x ≠ 40) (h2 : x ≠ 34) : readS (f + 1) (x :: l) = match textNum (wOf (x :: l)) with
    | some n => some (tInt n, wRest (x :: l))
    | none => some (tCon0 ⟨(wOf (x :: l)).toArray⟩, wRest (x :: l)) := by
  conv => lhs; unfold readS
  dsimp only
  rw [if_neg h1, if_neg h2]
  rfl
set_option maxRecDepth 100000 in
set_option maxHeartbeats 16000000 in
theorem l21Read_c (s : ByteArray) (b : Nat) (hs : s.size ≤ 1048576) : ∀ (f : Nat) (deep : Int), (f : Int) + deep = 101 → 0 ≤ deep → ∀ (p : Nat) (bad : Bool) (w : World), p ≤ s.size + 1 → RdS w b s p bad →
    Calls Try.prog 32 #[.pointer (some ⟨b, 0, none⟩), .int .i64 deep] w (RdPost b s (if bad then none else readS f (fromB s p)) (2 * f + 1) w)
  | f, deep, hf, hd0, p, bad, w, hp, R => by
    have ih : ∀ f', f = f' + 1 → ∀ (q : Nat) (bad : Bool) (W : World), q ≤ s.size + 1 → RdS W b s q bad → Calls Try.prog 32 #[.pointer (some ⟨b, 0, none⟩), .int .i64 (deep + 1)] W (RdPost b s (if bad then none else readS f' (fromB s q)) (2 * f' + 1) W) := fun f' e => by
      subst e; exact l21Read_c s b hs f' (deep + 1) (by omega) (by omega)
    replace ih := Lib.hid ih
    have hbl := R.lt
    obtain ⟨m, hmd⟩ : ∃ m, m = (if bad then none else readS f (fromB s p)) := ⟨_, rfl⟩
    rw [← hmd]
    go_enter Try.func32, Try.ntmps32
    go_upto_region 1 with fail
    have E : RowAt (w.alloc (.cells #[.int .i64 0, .int .i64 0, .string ⟨#[]⟩, .slice none 0 0] 63)) (w.heap.size) 0 [.int .i64 0, .int .i64 0, .string ⟨#[]⟩, .slice none 0 0] := RowAt.box w #[.int .i64 0, .int .i64 0, .string ⟨#[]⟩, .slice none 0 0] 63
    have EW : Wr (w.alloc (.cells #[.int .i64 0, .int .i64 0, .string ⟨#[]⟩, .slice none 0 0] 63)) (w.heap.size) 0 4 := Wr.box w #[.int .i64 0, .int .i64 0, .string ⟨#[]⟩, .slice none 0 0] 63
    have hw : Below w.heap.size w (w.alloc (.cells #[.int .i64 0, .int .i64 0, .string ⟨#[]⟩, .slice none 0 0] 63)) := by go_grown
    generalize (w.alloc (.cells #[.int .i64 0, .int .i64 0, .string ⟨#[]⟩, .slice none 0 0] 63)) = w0 at *
    have hsE := World.block_lt_of_cell? _ _ E.box4.1; dsimp only at hsE
    have R0 := R.below hw
    have F0 : RdF b w w0 := RdF.of hw (by omega)
    have ek : ∀ W, RdF b w0 W → RowAt W w.heap.size 0 [.int .i64 0, .int .i64 0, .string ⟨#[]⟩, .slice none 0 0] ∧ Wr W w.heap.size 0 4 := fun W D => ⟨E.kept D.kept (by omega), EW.kept D.kept (by omega)⟩
    replace ek := Lib.hid ek
    clear E EW R
    have hend : ∀ W (t : PxT) (a : Option Addr) (c p : Nat) (bad : Bool), RdF b w0 W → RdS W b s p bad → p ≤ s.size + 1 → PV (2 * f + 1) (fun g => w.heap.size < g) W [.int .i64 t.kind, .int .i64 t.n, .string t.s, .slice a t.kids.length c] t → Ends s m t p bad →
        RdPost b s m (2 * f + 1) w (.returned (.agg #[.int .i64 t.kind, .int .i64 t.n, .string t.s, .slice a t.kids.length c])) (put4 W w.heap.size (.int .i64 t.kind) (.int .i64 t.n) (.string t.s) (.slice a t.kids.length c)) :=
      fun W t a c p bad hF hR hp hP hE => RdPost.fin (by omega) hR (F0.trans hF) hp hP hE
    replace hend := Lib.hid hend
    obtain ⟨r_0, r_1, r_2⟩ := R0.row.box3
    have hbl0 := R0.lt
    cases bad
    · by_cases hlt : p < s.size
      · have d1 : decide ((s.size : Int) ≤ (p : Int)) = false := decide_eq_false (by omega)
        by_cases hf0 : f = 0
        · subst hf0
          have hm : m = none := by rw [hmd, if_neg (by decide)]; rfl
          have d2 : decide (100 < deep) = true := decide_eq_true (by omega)
          replace hm := Lib.hid hm; replace hmd := Lib.hid hmd
          (refine wp_region_ext_lit (by kernel_rfl) (by kernel_rfl) ?_; (repeat (any_goals (first | go_big_quiet_step (fail) | quiet_step (fail) | (refine wpQuiet_step (fun K hK => ?_); go_simp; split <;> (refine hK _ ?_; clear hK K))))); all_goals (refine wpQuiet_nil ?_; rintro w1 ⟨⟨_, hb1⟩, rfl⟩))
          have R1 := R0.below hb1
          have F1 := (RdF.refl b w0).trans (RdF.of hb1 (by omega))
          obtain ⟨E3, EW3⟩ := ek.out _ F1
          obtain ⟨e_0, e_1, e_2, e_3⟩ := E3.box4
          have ef_0 := EW3.frz 0 (by omega); have ef_1 := EW3.frz 1 (by omega); have ef_2 := EW3.frz 2 (by omega); have ef_3 := EW3.frz 3 (by omega)
          have hsE3 := World.block_lt_of_cell? _ _ e_0; dsimp only at hsE3
          obtain ⟨m_0, m_1, m_2⟩ := R1.row.box3
          have f_2 := R1.wr.frz 2 (by omega)
          have hbl1 := R1.lt
          have hbE : ¬ b = w.heap.size := by omega
          have hEb : ¬ w.heap.size = b := by omega
          have hwf : (PxT.mk 0 0 ⟨#[]⟩ []).wf := wf0 (k := 0) (by omega) (by decide)
          have hfin := hend.out (w1.setCell ⟨b, 2, none⟩ (.bool true)) (.mk 0 0 ⟨#[]⟩ []) none 0 p true (F1.set 2 _) (R1.setBad true) hp ((pv_leaf hwf).mono (by omega)) (.inr ⟨rfl, hm.out⟩)
          replace hfin := Lib.hid hfin
          go_wp2_with fail
          obtain ⟨p_0, p_1, p_2, p_3⟩ := (put4_cells (x := .int .i64 0) (y := .int .i64 0) (z := .string ⟨#[]⟩) (u := .slice none 0 0) (E3.set_other (g := b) (o := 2) hEb (.bool true)) rfl).box4
          unfold put4 at p_0 p_1 p_2 p_3
          refine bodyPost_ret (v := .agg #[.int .i64 0, .int .i64 0, .string ⟨#[]⟩, .slice none 0 0]) (by simp [results, Try.results32, go_sem, p_0, p_1, p_2, p_3]) rfl ?_
          exact hfin.out
        · obtain ⟨f', rfl⟩ : ∃ f', f = f' + 1 := ⟨f - 1, by omega⟩
          have d2 : decide (100 < deep) = false := decide_eq_false (by omega)
          have hwd : IntKind.i64.wrap (deep + 1) = deep + 1 := IntWalk.i64_in _ (by omega)
          have hm0 := hmd
          rw [if_neg (by decide), fromB_cons hlt] at hm0
          have ne : ∀ (x c : UInt8), (x.toNat : Int) ≠ (c.toNat : Int) → x ≠ c := fun x c h e => h (by rw [e])
          have eq : ∀ (x c : UInt8), (x.toNat : Int) = (c.toNat : Int) → x = c := fun x c h => UInt8.toNat_inj.1 (by omega)
          replace hmd := Lib.hid hmd; replace hm0 := Lib.hid hm0
          go_upto_region 1 with fail
          (refine wp_region_ext_lit (by kernel_rfl) (by kernel_rfl) ?_; (repeat (any_goals (first | go_big_quiet_step (fail) | quiet_step (fail) | (refine wpQuiet_step (fun K hK => ?_); go_simp; split <;> (refine hK _ ?_; clear hK K))))); all_goals (refine wpQuiet_nil ?_; rintro w1 ⟨⟨_, hb1⟩, rfl⟩))
          have R1 := R0.below hb1
          have F1 := RdF.of hb1 (by omega : b ≤ w0.heap.size)
          clear r_0 r_1 r_2
          obtain ⟨r_0, r_1, r_2⟩ := R1.row.box3
          have hbl1 := R1.lt
          go_upto_region 4 with fail
          by_cases h40 : (s[p].toNat : Int) = 40
          · have e1 : ((s[p].toNat : Int) == 40) = true := by rw [h40]; rfl
            have hq := eq s[p] 40 h40
            have hm : m = readIn (readS f') (fromB s (p + 1)) := by have h := hm0.out; rw [hq, readS_40] at h; exact h
            clear h40
            (refine wp_region_ext_lit (by kernel_rfl) (by kernel_rfl) ?_; (repeat (any_goals (first | go_big_quiet_step (fail) | quiet_step (fail) | (refine wpQuiet_step (fun K hK => ?_); go_simp; split <;> (refine hK _ ?_; clear hK K))))); all_goals (refine wpQuiet_nil ?_; rintro w2 ⟨⟨_, hb2⟩, rfl⟩))
            have R2 := R1.below hb2
            have F2 := F1.trans (RdF.of hb2 (by omega))
            have cP := l21Pair_c s f' p b (deep + 1) hs hlt hq w2 R2 (ih.out f' rfl)
            rw [← hm] at cP
            replace cP := Lib.hid cP; replace hm := Lib.hid hm; replace hq := Lib.hid hq
            obtain ⟨E2, EW2⟩ := ek.out _ F2
            have hsE2 := World.block_lt_of_cell? _ _ E2.box4.1; dsimp only at hsE2
            go_wp2_with (go_at_call 61; (with_reducible refine (cP.out).mono ?_); rintro e w3 ⟨t, xa, ca, pF, badF, rfl, PT, R3, F3, hpF, hE⟩; have F23 := F2.trans F3; obtain ⟨E3, EW3⟩ := ek.out _ F23; obtain ⟨e_0, e_1, e_2, e_3⟩ := E3.box4; have ef_0 := EW3.frz 0 (by omega); have ef_1 := EW3.frz 1 (by omega); have ef_2 := EW3.frz 2 (by omega); have ef_3 := EW3.frz 3 (by omega); have hfin := hend.out w3 t xa ca pF badF F23 R3 hpF ((PT.mono (by omega)).to (fun _ _ _ => rfl) (fun g hg _ => by have := F2.size; omega)) hE; replace hfin := Lib.hid hfin)
            obtain ⟨p_0, p_1, p_2, p_3⟩ := (put4_cells (x := .int .i64 t.kind) (y := .int .i64 t.n) (z := .string t.s) (u := .slice xa t.kids.length ca) (E3) rfl).box4
            unfold put4 at p_0 p_1 p_2 p_3
            refine bodyPost_ret (v := .agg #[.int .i64 t.kind, .int .i64 t.n, .string t.s, .slice xa t.kids.length ca]) (by simp [results, Try.results32, go_sem, p_0, p_1, p_2, p_3]) rfl ?_
            exact hfin.out
          · have e1 : ((s[p].toNat : Int) == 40) = false := by rw [beq_eq_false_iff_ne]; exact h40
            have hq := ne s[p] 40 h40
            clear h40
            (refine wp_region_ext_lit (by kernel_rfl) (by kernel_rfl) ?_; (repeat (any_goals (first | go_big_quiet_step (fail) | quiet_step (fail) | (refine wpQuiet_step (fun K hK => ?_); go_simp; split <;> (refine hK _ ?_; clear hK K))))); all_goals (refine wpQuiet_nil ?_; rintro w2 ⟨⟨_, hb2⟩, rfl⟩))
            have R2 := R1.below hb2
            have F2 := F1.trans (RdF.of hb2 (by omega))
            clear r_0 r_1 r_2
            obtain ⟨r_0, r_1, r_2⟩ := R2.row.box3
            have hbl2 := R2.lt
            go_upto_region 6 with fail
            by_cases h34 : (s[p].toNat : Int) = 34
            · have e2 : ((s[p].toNat : Int) == 34) = true := by rw [h34]; rfl
              have hq2 := eq s[p] 34 h34
              have hm : m = strR (fromB s (p + 1)) := by have h := hm0.out; rw [hq2, readS_34] at h; exact h
              clear h34
              (refine wp_region_ext_lit (by kernel_rfl) (by kernel_rfl) ?_; (repeat (any_goals (first | go_big_quiet_step (fail) | quiet_step (fail) | (refine wpQuiet_step (fun K hK => ?_); go_simp; split <;> (refine hK _ ?_; clear hK K))))); all_goals (refine wpQuiet_nil ?_; rintro w3 ⟨⟨_, hb3⟩, rfl⟩))
              have R3 := R2.below hb3
              have F3 := F2.trans (RdF.of hb3 (by omega))
              have cP := l21Str_c s p b hs hlt hq2 w3 R3
              rw [← hm] at cP
              replace cP := Lib.hid cP; replace hm := Lib.hid hm; replace hq := Lib.hid hq; replace hq2 := Lib.hid hq2
              obtain ⟨E2, EW2⟩ := ek.out _ F3
              have hsE2 := World.block_lt_of_cell? _ _ E2.box4.1; dsimp only at hsE2
              go_wp2_with (go_at_call 62; (with_reducible refine (cP.out).mono ?_); rintro e w4 ⟨t, xa, ca, pF, badF, rfl, PT, R4, F4, hpF, hE⟩; have F23 := F3.trans F4; obtain ⟨E3, EW3⟩ := ek.out _ F23; obtain ⟨e_0, e_1, e_2, e_3⟩ := E3.box4; have ef_0 := EW3.frz 0 (by omega); have ef_1 := EW3.frz 1 (by omega); have ef_2 := EW3.frz 2 (by omega); have ef_3 := EW3.frz 3 (by omega); have hfin := hend.out w4 t xa ca pF badF F23 R4 hpF ((PT.mono (by omega)).to (fun _ _ _ => rfl) (fun g hg _ => by have := F3.size; omega)) hE; replace hfin := Lib.hid hfin)
              obtain ⟨p_0, p_1, p_2, p_3⟩ := (put4_cells (x := .int .i64 t.kind) (y := .int .i64 t.n) (z := .string t.s) (u := .slice xa t.kids.length ca) (E3) rfl).box4
              unfold put4 at p_0 p_1 p_2 p_3
              refine bodyPost_ret (v := .agg #[.int .i64 t.kind, .int .i64 t.n, .string t.s, .slice xa t.kids.length ca]) (by simp [results, Try.results32, go_sem, p_0, p_1, p_2, p_3]) rfl ?_
              exact hfin.out
            · have e2 : ((s[p].toNat : Int) == 34) = false := by rw [beq_eq_false_iff_ne]; exact h34
              have hm : m = match textNum (wOf (fromB s p)) with
                  | some n => some (tInt n, wRest (fromB s p))
                  | none => some (tCon0 ⟨(wOf (fromB s p)).toArray⟩, wRest (fromB s p)) := by have h := hm0.out; rw [readS_word hq (ne s[p] 34 h34), ← fromB_cons hlt] at h; exact h
              have hle := wOf_le s (k := p) (by omega)
              rw [wRest_at] at hm
              have hsz : (⟨(wOf (fromB s p)).toArray⟩ : ByteArray).size ≤ 1048576 := by show (wOf (fromB s p)).toArray.size ≤ _; simp; omega
              have cT := fun W => spec_TextNum_c ⟨(wOf (fromB s p)).toArray⟩ (by unfold StrOk; omega) W
              have hI : ∀ n, textNum (wOf (fromB s p)) = some n → In63 n := fun n h => (textNum_some.1 h).1
              obtain ⟨q, hqd⟩ : ∃ q, q = p + (wOf (fromB s p)).length := ⟨_, rfl⟩
              have hlw : Hid (∀ W, RdS W b s (p + (wOf (fromB s p)).length) false → RdS W b s q false) := fun W h => by rw [hqd]; exact h
              rw [← hqd] at hm hle
              have hwl : (⟨(wOf (fromB s p)).toArray⟩ : ByteArray).data.toList = wOf (fromB s p) := rfl
              rw [hwl] at cT
              clear h34 hwl
              (refine wp_region_ext_lit (by kernel_rfl) (by kernel_rfl) ?_; (repeat (any_goals (first | go_big_quiet_step (fail) | quiet_step (fail) | (refine wpQuiet_step (fun K hK => ?_); go_simp; split <;> (refine hK _ ?_; clear hK K))))); all_goals (refine wpQuiet_nil ?_; rintro w3 ⟨⟨_, hb3⟩, rfl⟩))
              have R3 := R2.below hb3
              have F3 := F2.trans (RdF.of hb3 (by omega))
              generalize hT : textNum (wOf (fromB s p)) = tn at *
              replace hm := Lib.hid hm; replace hq := Lib.hid hq; replace cT := Lib.hid cT; replace hqd := Lib.hid hqd; replace hT := Lib.hid hT
              go_upto_region 9 with (go_at_call 63; (with_reducible refine (l21Word_c s p b false hs (by omega) _ R3).mono ?_); rintro e w4 ⟨rfl, R4, F4⟩)
              have R4 := hlw.out _ R4
              generalize (⟨(wOf (fromB s p)).toArray⟩ : ByteArray) = wd at *
              have F34 := F3.trans F4
              cases tn with
              | some n =>
                replace cT : Hid (∀ W, Calls Try.prog 64 #[.string wd] W fun e w' => e = .returned (.tuple #[.int .i64 n, .bool true]) ∧ Below W.heap.size W w') := cT
                have hn := hI n rfl
                have hwf : (PxT.mk 3 n ⟨#[]⟩ []).wf := ⟨⟨by show _ ≤ (3 : Int); omega, by show (3 : Int) ≤ _; omega⟩, ⟨by show _ ≤ n; have := hn.1; omega, by show n ≤ _; have := hn.2; omega⟩, by show (0 : Nat) ≤ _; omega⟩
                go_wp2_with (go_at_call 64; (with_reducible refine (cT.out _).mono ?_); rintro e w5 ⟨rfl, hb5⟩; have R5 := R4.below hb5; have F45 := F34.trans (RdF.of hb5 (by have := R4.lt; omega)); obtain ⟨E3, EW3⟩ := ek.out _ F45; obtain ⟨e_0, e_1, e_2, e_3⟩ := E3.box4; have ef_0 := EW3.frz 0 (by omega); have ef_1 := EW3.frz 1 (by omega); have ef_2 := EW3.frz 2 (by omega); have ef_3 := EW3.frz 3 (by omega); have hfin := hend.out w5 (.mk 3 n ⟨#[]⟩ []) none 0 q false F45 R5 (by omega) ((pv_leaf hwf).mono (by omega)) (.inl ⟨rfl, by omega, hm.out⟩); replace hfin := Lib.hid hfin)
                obtain ⟨p_0, p_1, p_2, p_3⟩ := (put4_cells (x := .int .i64 3) (y := .int .i64 n) (z := .string ⟨#[]⟩) (u := .slice none 0 0) (E3) rfl).box4
                unfold put4 at p_0 p_1 p_2 p_3
                refine bodyPost_ret (v := .agg #[.int .i64 3, .int .i64 n, .string ⟨#[]⟩, .slice none 0 0]) (by simp [results, Try.results32, go_sem, p_0, p_1, p_2, p_3]) rfl ?_
                exact hfin.out
              | none =>
                replace cT : Hid (∀ W, Calls Try.prog 64 #[.string wd] W fun e w' => e = .returned (.tuple #[.int .i64 0, .bool false]) ∧ Below W.heap.size W w') := cT
                have hwf : (PxT.mk 4 0 wd []).wf := wf0 (k := 4) (by omega) (by omega)
                go_wp2_with (go_at_call 64; (with_reducible refine (cT.out _).mono ?_); rintro e w5 ⟨rfl, hb5⟩; have R5 := R4.below hb5; have F45 := F34.trans (RdF.of hb5 (by have := R4.lt; omega)); obtain ⟨E3, EW3⟩ := ek.out _ F45; obtain ⟨e_0, e_1, e_2, e_3⟩ := E3.box4; have ef_0 := EW3.frz 0 (by omega); have ef_1 := EW3.frz 1 (by omega); have ef_2 := EW3.frz 2 (by omega); have ef_3 := EW3.frz 3 (by omega); have hfin := hend.out w5 (.mk 4 0 wd []) none 0 q false F45 R5 (by omega) ((pv_leaf hwf).mono (by omega)) (.inl ⟨rfl, by omega, hm.out⟩); replace hfin := Lib.hid hfin)
                obtain ⟨p_0, p_1, p_2, p_3⟩ := (put4_cells (x := .int .i64 4) (y := .int .i64 0) (z := .string wd) (u := .slice none 0 0) (E3) rfl).box4
                unfold put4 at p_0 p_1 p_2 p_3
                refine bodyPost_ret (v := .agg #[.int .i64 4, .int .i64 0, .string wd, .slice none 0 0]) (by simp [results, Try.results32, go_sem, p_0, p_1, p_2, p_3]) rfl ?_
                exact hfin.out
      · have d1 : decide ((s.size : Int) ≤ (p : Int)) = true := decide_eq_true (by omega)
        have hm : m = none := by rw [hmd, if_neg (by decide), fromB_nil (by omega)]; exact readS_nil f
        replace hm := Lib.hid hm; replace hmd := Lib.hid hmd
        (refine wp_region_ext_lit (by kernel_rfl) (by kernel_rfl) ?_; (repeat (any_goals (first | go_big_quiet_step (fail) | quiet_step (fail) | (refine wpQuiet_step (fun K hK => ?_); go_simp; split <;> (refine hK _ ?_; clear hK K))))); all_goals (refine wpQuiet_nil ?_; rintro w1 ⟨⟨_, hb1⟩, rfl⟩))
        have R1 := R0.below hb1
        have F1 := (RdF.refl b w0).trans (RdF.of hb1 (by omega))
        obtain ⟨E3, EW3⟩ := ek.out _ F1
        obtain ⟨e_0, e_1, e_2, e_3⟩ := E3.box4
        have ef_0 := EW3.frz 0 (by omega); have ef_1 := EW3.frz 1 (by omega); have ef_2 := EW3.frz 2 (by omega); have ef_3 := EW3.frz 3 (by omega)
        have hsE3 := World.block_lt_of_cell? _ _ e_0; dsimp only at hsE3
        obtain ⟨m_0, m_1, m_2⟩ := R1.row.box3
        have f_2 := R1.wr.frz 2 (by omega)
        have hbl1 := R1.lt
        have hbE : ¬ b = w.heap.size := by omega
        have hEb : ¬ w.heap.size = b := by omega
        have hwf : (PxT.mk 0 0 ⟨#[]⟩ []).wf := wf0 (k := 0) (by omega) (by decide)
        have hfin := hend.out (w1.setCell ⟨b, 2, none⟩ (.bool true)) (.mk 0 0 ⟨#[]⟩ []) none 0 p true (F1.set 2 _) (R1.setBad true) hp ((pv_leaf hwf).mono (by omega)) (.inr ⟨rfl, hm.out⟩)
        replace hfin := Lib.hid hfin
        go_wp2_with fail
        obtain ⟨p_0, p_1, p_2, p_3⟩ := (put4_cells (x := .int .i64 0) (y := .int .i64 0) (z := .string ⟨#[]⟩) (u := .slice none 0 0) (E3.set_other (g := b) (o := 2) hEb (.bool true)) rfl).box4
        unfold put4 at p_0 p_1 p_2 p_3
        refine bodyPost_ret (v := .agg #[.int .i64 0, .int .i64 0, .string ⟨#[]⟩, .slice none 0 0]) (by simp [results, Try.results32, go_sem, p_0, p_1, p_2, p_3]) rfl ?_
        exact hfin.out
    · have hm : m = none := by rw [hmd]; exact if_pos rfl
      replace hm := Lib.hid hm; replace hmd := Lib.hid hmd
      (refine wp_region_ext_lit (by kernel_rfl) (by kernel_rfl) ?_; (repeat (any_goals (first | go_big_quiet_step (fail) | quiet_step (fail) | (refine wpQuiet_step (fun K hK => ?_); go_simp; split <;> (refine hK _ ?_; clear hK K))))); all_goals (refine wpQuiet_nil ?_; rintro w1 ⟨⟨_, hb1⟩, rfl⟩))
      have R1 := R0.below hb1
      have F1 := (RdF.refl b w0).trans (RdF.of hb1 (by omega))
      obtain ⟨E3, EW3⟩ := ek.out _ F1
      obtain ⟨e_0, e_1, e_2, e_3⟩ := E3.box4
      have ef_0 := EW3.frz 0 (by omega); have ef_1 := EW3.frz 1 (by omega); have ef_2 := EW3.frz 2 (by omega); have ef_3 := EW3.frz 3 (by omega)
      have hsE3 := World.block_lt_of_cell? _ _ e_0; dsimp only at hsE3
      obtain ⟨m_0, m_1, m_2⟩ := R1.row.box3
      have f_2 := R1.wr.frz 2 (by omega)
      have hbl1 := R1.lt
      have hbE : ¬ b = w.heap.size := by omega
      have hEb : ¬ w.heap.size = b := by omega
      have hwf : (PxT.mk 0 0 ⟨#[]⟩ []).wf := wf0 (k := 0) (by omega) (by decide)
      have hfin := hend.out (w1.setCell ⟨b, 2, none⟩ (.bool true)) (.mk 0 0 ⟨#[]⟩ []) none 0 p true (F1.set 2 _) (R1.setBad true) hp ((pv_leaf hwf).mono (by omega)) (.inr ⟨rfl, hm.out⟩)
      replace hfin := Lib.hid hfin
      go_wp2_with fail
      obtain ⟨p_0, p_1, p_2, p_3⟩ := (put4_cells (x := .int .i64 0) (y := .int .i64 0) (z := .string ⟨#[]⟩) (u := .slice none 0 0) (E3.set_other (g := b) (o := 2) hEb (.bool true)) rfl).box4
      unfold put4 at p_0 p_1 p_2 p_3
      refine bodyPost_ret (v := .agg #[.int .i64 0, .int .i64 0, .string ⟨#[]⟩, .slice none 0 0]) (by simp [results, Try.results32, go_sem, p_0, p_1, p_2, p_3]) rfl ?_
      exact hfin.out
end Go.Proofs.Ytpblhonnknmjjaa

/- DataText of both, for values that hold up to sixteen million. -/
namespace Go.Proofs.Ytpblhonnknmjjaa
open Go.RowKit
set_option linter.unusedVariables false
set_option linter.unusedSimpArgs false
attribute [local go_sem] Ext.cell

theorem wt_dataM {d : GData} (h : dataOk d = true) (hb : d.bulk ≤ 16777216) : wt d.nodes.length (treeOf d.nodes d.nodes.length 0) ≤ 1073741824 := by
  obtain ⟨_, h0, h6⟩ := dataOk_up h
  unfold dataOk at h
  simp only [Bool.and_eq_true, decide_eq_true_eq] at h
  obtain ⟨h1, h2, _⟩ := h
  rw [show kidsAt d.nodes = (fun i => (d.nodes[i]?.map (·.kids)).getD []) from rfl, ← ends_eq] at h2
  have h3 := wt_ends d.nodes (d.nodes.length + 1) 0 d.nodes.length (by omega)
  rw [h2, Int.toNat_natCast] at h3
  have h4 := sum_pre d.nodes
  have h5 : pre d.nodes d.nodes.length = (d.nodes.map fun x => 4 * x.s.size + 30).sum := by unfold pre; rw [List.take_length]
  unfold GData.bulk at hb
  rw [h5] at h3
  omega

set_option maxRecDepth 100000 in
set_option maxHeartbeats 4000000 in
theorem impl_DataText_cM (d : GData) (r : List Value) (lo : Nat) (hbk : d.bulk ≤ 16777216) (w : World) (hr : GData.R lo w r d) :
    Calls Try.prog 10 #[.agg r.toArray] w fun e w' => e = .returned (.string (dataText d)) ∧ Below w.heap.size w w' := by
  have hd : d.nodes.length ≤ 1152921504606846976 := by have := length_le_bulkS GDNode.bulk_nonneg d.nodes; unfold GData.bulk at hbk; omega
  have c1 := fun W (hW : Below w.heap.size w W) => DataOk_c d hd r lo W (GData.good.below hr hW)
  unfold dataText
  cases hok : dataOk d with
  | false =>
    rw [hok] at c1
    obtain ⟨u, rfl, -, hu⟩ := hr
    obtain ⟨a, c, rfl⟩ := hu.form
    clear hu hbk
    replace c1 := Lib.hid c1
    generalize d.nodes.length = n at *
    go_enter Try.func10, Try.ntmps10
    go_upto_region 1 with fail
    have B : RowAt (w.alloc (.cells #[.slice a n c] 25)) (w.heap.size) 0 [.slice a n c] := RowAt.box w #[.slice a n c] 25
    have hw : Below w.heap.size w (w.alloc (.cells #[.slice a n c] 25)) := by go_grown
    generalize (w.alloc (.cells #[.slice a n c] 25)) = w0 at *
    have b_0 := B.box1; have hsB := World.block_lt_of_cell? _ _ b_0; dsimp only at hsB
    go_wp2_with (go_at_call 22; ((with_reducible refine (c1.out _ hw).mono ?_); rintro e w1 ⟨rfl, hb⟩; have hw := hw.trans (hb.mono hw.size); have B := B.below hb; have b_0 := B.box1; have hsB := World.block_lt_of_cell? _ _ b_0; dsimp only at hsB; clear hb))
    go_returns
    exact ⟨rfl, hw⟩
  | true =>
    rw [hok] at c1
    obtain ⟨hU, h0, hL⟩ := dataOk_up hok
    have hfew := dataOk_few hok
    have htok := treeOf_tok d.nodes hU (dataOk_nodes hok) (data_wf hr) d.nodes.length 0 h0 (by omega)
    have hwt := wt_dataM hok hbk
    have Hr := hr
    obtain ⟨u, rfl, -, hu⟩ := hr
    have c2 : ∀ W, Below w.heap.size w W → Calls Try.prog 27 #[u, .int .i64 0] W fun e w' => ∃ b, e = .returned (.pointer (some ⟨b, 0, none⟩)) ∧ PxR d.nodes.length (fun b => W.heap.size ≤ b) w' (.pointer (some ⟨b, 0, none⟩)) (treeOf d.nodes d.nodes.length 0) ∧ Below W.heap.size W w' := fun W hW => growData_c d.nodes hU hfew hL d.nodes.length 0 u lo W (hu.below GDNode.good hW) h0 (by omega)
    have c3 := fun v S W (hW : PxR d.nodes.length S W v (treeOf d.nodes d.nodes.length 0)) => dataText_c d.nodes.length S v (treeOf d.nodes d.nodes.length 0) W hW htok hwt
    obtain ⟨a, c, rfl⟩ := hu.form
    clear hu Hr hU hfew hok htok hwt hbk
    generalize d.nodes.length = n at *
    generalize treeOf d.nodes n 0 = t at *
    generalize textT n t = dd at *
    replace c1 := Lib.hid c1; replace c2 := Lib.hid c2; replace c3 := Lib.hid c3
    go_enter Try.func10, Try.ntmps10
    go_upto_region 1 with fail
    have B : RowAt (w.alloc (.cells #[.slice a n c] 25)) (w.heap.size) 0 [.slice a n c] := RowAt.box w #[.slice a n c] 25
    have hw : Below w.heap.size w (w.alloc (.cells #[.slice a n c] 25)) := by go_grown
    generalize (w.alloc (.cells #[.slice a n c] 25)) = w0 at *
    have b_0 := B.box1; have hsB := World.block_lt_of_cell? _ _ b_0; dsimp only at hsB
    go_wp2_with (first | (go_at_call 22; ((with_reducible refine (c1.out _ hw).mono ?_); rintro e w1 ⟨rfl, hb⟩; have hw := hw.trans (hb.mono hw.size); have B := B.below hb; have b_0 := B.box1; have hsB := World.block_lt_of_cell? _ _ b_0; dsimp only at hsB; clear hb)) | (go_at_call 27; ((with_reducible refine (c2.out _ hw).mono ?_); rintro e w1 ⟨pb, rfl, hP, hb⟩; have hw := hw.trans (hb.mono hw.size); have B := B.below hb; have b_0 := B.box1; have hsB := World.block_lt_of_cell? _ _ b_0; dsimp only at hsB; clear hb)) | (go_at_call 26; ((with_reducible refine (c3.out _ _ _ hP).mono ?_); rintro e w1 ⟨rfl, hb⟩; have hw := hw.trans (hb.mono hw.size); have B := B.below hb; have b_0 := B.box1; have hsB := World.block_lt_of_cell? _ _ b_0; dsimp only at hsB; clear hb)))
    go_returns
    exact ⟨rfl, hw⟩

set_option maxRecDepth 100000 in
set_option maxHeartbeats 4000000 in
theorem spec_DataText_cM (d : GData) (r : List Value) (lo : Nat) (hbk : d.bulk ≤ 16777216) (w : World) (hr : GData.R lo w r d) :
    Calls Try.prog 12 #[.agg r.toArray] w fun e w' => e = .returned (.string (dataText d)) ∧ Below w.heap.size w w' := by
  have hd : d.nodes.length ≤ 1152921504606846976 := by have := length_le_bulkS GDNode.bulk_nonneg d.nodes; unfold GData.bulk at hbk; omega
  have c1 := fun W (hW : Below w.heap.size w W) => specDataOk_c d hd r lo W (GData.good.below hr hW)
  unfold dataText
  cases hok : dataOk d with
  | false =>
    rw [hok] at c1
    obtain ⟨u, rfl, -, hu⟩ := hr
    obtain ⟨a, c, rfl⟩ := hu.form
    clear hu hbk
    replace c1 := Lib.hid c1
    generalize d.nodes.length = n at *
    go_enter Try.func12, Try.ntmps12
    go_upto_region 1 with fail
    have B : RowAt (w.alloc (.cells #[.slice a n c] 25)) (w.heap.size) 0 [.slice a n c] := RowAt.box w #[.slice a n c] 25
    have hw : Below w.heap.size w (w.alloc (.cells #[.slice a n c] 25)) := by go_grown
    generalize (w.alloc (.cells #[.slice a n c] 25)) = w0 at *
    have b_0 := B.box1; have hsB := World.block_lt_of_cell? _ _ b_0; dsimp only at hsB
    go_wp2_with (go_at_call 9; ((with_reducible refine (c1.out _ hw).mono ?_); rintro e w1 ⟨rfl, hb⟩; have hw := hw.trans (hb.mono hw.size); have B := B.below hb; have b_0 := B.box1; have hsB := World.block_lt_of_cell? _ _ b_0; dsimp only at hsB; clear hb))
    go_returns
    exact ⟨rfl, hw⟩
  | true =>
    rw [hok] at c1
    obtain ⟨hU, h0, hL⟩ := dataOk_up hok
    have htok := treeOf_tok d.nodes hU (dataOk_nodes hok) (data_wf hr) d.nodes.length 0 h0 (by omega)
    have hwt := wt_dataM hok hbk
    have c2 : ∀ W, Below w.heap.size w W → Calls Try.prog 28 #[.agg r.toArray, .int .i64 0] W fun e w' => e = .returned (.string (textT d.nodes.length (treeOf d.nodes d.nodes.length 0))) ∧ Below W.heap.size W w' := fun W hW => l21Text_c d hU hL d.nodes.length 0 h0 (by omega) htok hwt r lo W (GData.good.below hr hW)
    obtain ⟨u, rfl, -, hu⟩ := hr
    obtain ⟨a, c, rfl⟩ := hu.form
    clear hu hU hok htok hwt hbk
    generalize d.nodes.length = n at *
    generalize textT n (treeOf d.nodes n 0) = dd at *
    replace c1 := Lib.hid c1; replace c2 := Lib.hid c2
    go_enter Try.func12, Try.ntmps12
    go_upto_region 1 with fail
    have B : RowAt (w.alloc (.cells #[.slice a n c] 25)) (w.heap.size) 0 [.slice a n c] := RowAt.box w #[.slice a n c] 25
    have hw : Below w.heap.size w (w.alloc (.cells #[.slice a n c] 25)) := by go_grown
    generalize (w.alloc (.cells #[.slice a n c] 25)) = w0 at *
    have b_0 := B.box1; have hsB := World.block_lt_of_cell? _ _ b_0; dsimp only at hsB
    go_wp2_with (first | (go_at_call 9; ((with_reducible refine (c1.out _ hw).mono ?_); rintro e w1 ⟨rfl, hb⟩; have hw := hw.trans (hb.mono hw.size); have B := B.below hb; have b_0 := B.box1; have hsB := World.block_lt_of_cell? _ _ b_0; dsimp only at hsB; clear hb)) | (go_at_call 28; ((with_reducible refine (c2.out _ hw).mono ?_); rintro e w1 ⟨rfl, hb⟩; have hw := hw.trans (hb.mono hw.size); have B := B.below hb; have b_0 := B.box1; have hsB := World.block_lt_of_cell? _ _ b_0; dsimp only at hsB; clear hb)))
    go_returns
    exact ⟨rfl, hw⟩

end Go.Proofs.Ytpblhonnknmjjaa

/- The reference's TextData. -/
namespace Go.Proofs.Ytpblhonnknmjjaa
open Go.RowKit
set_option linter.unusedVariables false
set_option linter.unusedSimpArgs false
attribute [local go_sem] Ext.cell

/-- What spec.TextData hands back. -/
def StPost (s : ByteArray) (w : World) (e : Ending) (w' : World) : Prop :=
  (∃ (d : GData) (u : Value), textDataP s = some d ∧ e = .returned (.tuple #[.agg #[u], .bool true]) ∧ Sl GDNode.R 4 w.heap.size w' u d.nodes ∧ Below w.heap.size w w') ∨
  (textDataP s = none ∧ e = .returned (.tuple #[.agg #[.slice none 0 0], .bool false]) ∧ Below w.heap.size w w')
theorem td_none {s : ByteArray} (h : readS 101 (fromB s 0) = none) : textDataP s = none := by unfold textDataP; rw [h]
theorem td_more {s : ByteArray} {t : PxT} {p : Nat} (h : readS 101 (fromB s 0) = some (t, fromB s p)) (hp : p < s.size) : textDataP s = none := by
  unfold textDataP; rw [h, fromB_cons hp]
theorem td_all {s : ByteArray} {t : PxT} {p : Nat} (h : readS 101 (fromB s 0) = some (t, fromB s p)) (hp : s.size ≤ p) : textDataP s = if dataText ⟨layT 203 0 t⟩ = s then some ⟨layT 203 0 t⟩ else none := by
  unfold textDataP; rw [h, fromB_nil hp]
theorem td_bulk {s : ByteArray} (hs : s.size ≤ 1048576) {t : PxT} {r : List UInt8} (h : readS 101 (fromB s 0) = some (t, r)) : ∀ F, mT F t ≤ 2097153 := by
  have h1 := (readS_small 101 _ t r h).2
  have e : (fromB s 0).length = s.size := rfl
  intro F
  have := h1 F
  omega

set_option maxRecDepth 100000 in
set_option maxHeartbeats 16000000 in
theorem spec_TextData_c (s : ByteArray) (hs : s.size ≤ 1048576) (w : World) : Calls Try.prog 15 #[.string s] w (StPost s w) := by
  go_enter Try.func15, Try.ntmps15
  go_upto_region 1 with fail
  have E : RowAt (w.alloc (.cells #[.slice none 0 0] 25)) (w.heap.size) 0 [.slice none 0 0] := RowAt.box w #[.slice none 0 0] 25
  have EW : Wr (w.alloc (.cells #[.slice none 0 0] 25)) (w.heap.size) 0 1 := Wr.box w #[.slice none 0 0] 25
  have hw : Below w.heap.size w (w.alloc (.cells #[.slice none 0 0] 25)) := by go_grown
  generalize (w.alloc (.cells #[.slice none 0 0] 25)) = w0 at *
  have hsE := World.block_lt_of_cell? _ _ E.box1; dsimp only at hsE
  have ek : ∀ W, RdF w0.heap.size w0 W → RowAt W w.heap.size 0 [.slice none 0 0] ∧ Wr W w.heap.size 0 1 := fun W D => ⟨E.kept D.kept (by omega), EW.kept D.kept (by omega)⟩
  replace ek := Lib.hid ek
  clear E EW
  go_upto_region 2 with fail
  obtain ⟨w1, hW1⟩ : ∃ W, W = w0.alloc (.cells #[.string s, .int .i64 0, .bool false] 60) := ⟨_, rfl⟩
  rw [← hW1]
  have hb1' : Below w0.heap.size w0 w1 := by rw [hW1]; go_grown
  have R1 : RdS w1 w0.heap.size s 0 false := by rw [hW1]; exact ⟨RowAt.box w0 #[_, _, _] _, Wr.box w0 #[_, _, _] _⟩
  have F1 : RdF w0.heap.size w0 w1 := RdF.of hb1' (Nat.le_refl _)
  have cR := l21Read_c s w0.heap.size hs 101 0 (by omega) (by omega) 0 false w1 (by omega) R1
  rw [if_neg (by decide)] at cR
  have hz1 : w0.heap.size < w1.heap.size := R1.lt
  replace cR := Lib.hid cR
  clear hW1 hb1'
  go_upto_region 3 with (go_at_call 32; (with_reducible refine (cR.out).mono ?_); rintro e w2 ⟨t, xa, ca, p, bad, rfl, PT, R2, F2, hp, hE⟩)
  obtain ⟨w3, hW3⟩ : ∃ W, W = w2.alloc (.cells #[.int .i64 t.kind, .int .i64 t.n, .string t.s, .slice xa t.kids.length ca] 63) := ⟨_, rfl⟩
  rw [← hW3]
  have hb3' : Below w2.heap.size w2 w3 := by rw [hW3]; go_grown
  have A3 : RowAt w3 w2.heap.size 0 [.int .i64 t.kind, .int .i64 t.n, .string t.s, .slice xa t.kids.length ca] := by rw [hW3]; exact RowAt.box w2 #[_, _, _, _] _
  have R3 := R2.below hb3'
  have P3 : PV 203 (fun g => w1.heap.size ≤ g) w3 [.int .i64 t.kind, .int .i64 t.n, .string t.s, .slice xa t.kids.length ca] t := PT.below hb3'
  have hz2 := F2.size
  have F3 := (F1.trans F2).trans (RdF.of hb3' (by have := R2.lt; omega))
  obtain ⟨bT, hbT⟩ : ∃ x, x = w2.heap.size := ⟨_, rfl⟩
  rw [← hbT] at A3 ⊢
  have hbT2 : w1.heap.size ≤ bT := by omega
  replace hbT := Lib.hid hbT
  clear hW3 hb3' PT R2 F1 F2 R1 cR
  obtain ⟨r_0, r_1, r_2⟩ := R3.row.box3
  have hbl3 := R3.lt
  have hfail : ∀ W, textDataP s = none → RdF w0.heap.size w0 W → StPost s w (.returned (.tuple #[.agg #[.slice none 0 0], .bool false])) (W.setCell ⟨w.heap.size, 0, none⟩ (.slice none 0 0)) := fun W hn hF =>
    .inr ⟨hn, rfl, (hw.trans (hF.below.mono (by omega))).setCell (p := ⟨w.heap.size, 0, none⟩) (Nat.le_refl _) _⟩
  replace hfail := Lib.hid hfail
  by_cases hgood : bad = false ∧ p = s.size
  · obtain ⟨rfl, rfl⟩ := hgood
    rcases hE with ⟨-, hps, hrd⟩ | ⟨h, _⟩
    rotate_left
    · cases h
    have htd := td_all hrd (Nat.le_refl _)
    have hmT := td_bulk hs hrd
    have d1 : ((s.size : Int) != (s.size : Int)) = false := by simp
    replace htd := Lib.hid htd; replace hrd := Lib.hid hrd; replace P3 := Lib.hid P3; replace hmT := Lib.hid hmT
    have hb4 : Below w3.heap.size w3 w3 := Below.refl _ _
    have R4 := R3.below hb4
    have F4 := F3.trans (RdF.of hb4 (by omega))
    have A4 := A3.below hb4
    have P4 := P3.out.below hb4
    have hz4 := hb4.size
    obtain ⟨a_0, a_1, a_2, a_3⟩ := A4.box4
    have hsA4 := World.block_lt_of_cell? _ _ a_0; dsimp only at hsA4
    go_upto_region 5 with fail
    have cL := l07Lay_c 203 t (fun q => w1.heap.size ≤ q ∧ q < w3.heap.size) (.slice none 0 0) [.int .i64 t.kind, .int .i64 t.n, .string t.s, .slice xa t.kids.length ca] [] w3.heap.size w3 (P4.to (fun _ _ _ => rfl) fun q h1 h2 => ⟨h1, h2⟩) (OwnD.nil _ _ _ _) (Nat.le_refl _) (fun q hq => hq.2) (by have h := hmT.out 203; have h2 := szT_mT 203 t; simp; omega)
    have hlen : ∀ ps : List DRow, ps.map (·.1) = ([] : List DRow).map (·.1) ++ layT 203 ([] : List DRow).length t → ps.map (·.1) = layT 203 0 t ∧ 1 ≤ ps.length := fun ps h => by
      have h1 : ps.map (·.1) = layT 203 0 t := by simpa using h
      refine ⟨h1, ?_⟩
      have h2 := congrArg List.length h1
      rw [List.length_map] at h2
      rw [h2]
      show 1 ≤ (_ :: _ : List GDNode).length
      simp
    replace cL := Lib.hid cL; replace hlen := Lib.hid hlen
    go_upto_region 6 with (go_at_call 33; (with_reducible refine (cL.out).mono ?_); rintro e w5 ⟨v, ps, rfl, O5, hps, hb5, K5⟩; obtain ⟨hps, hn1⟩ := hlen.out ps hps; obtain ⟨va, vc, rfl⟩ := O5.form)
    obtain ⟨w6, hW6⟩ : ∃ W, W = w5.alloc (.cells #[.slice va ps.length vc] 25) := ⟨_, rfl⟩
    rw [← hW6]
    have hb6 : Below w5.heap.size w5 w6 := by rw [hW6]; go_grown
    have D6 : RowAt w6 w5.heap.size 0 [.slice va ps.length vc] := by rw [hW6]; exact RowAt.box w5 #[_] _
    have S6 : Sl GDNode.R 4 w3.heap.size w6 (.slice va ps.length vc) (layT 203 0 t) := by have h := O5.sl.below GDNode.good hb6; rw [hps] at h; exact h
    have hll : (layT 203 0 t).length = ps.length := by rw [← hps, List.length_map]
    have hbk : (GData.mk (layT 203 0 t)).bulk ≤ 16777216 := by
      have h := layT_bulk 203 0 t
      have h2 := hmT.out 203
      show bulkS GDNode.bulk (layT 203 0 t) ≤ _
      omega
    have F6 := (F4.trans (RdF.of hb5 (by have := R4.lt; omega))).trans (RdF.of hb6 (by have := R4.lt; have := hb5.size; omega))
    have GR : GData.R w3.heap.size w6 [.slice va ps.length vc] ⟨layT 203 0 t⟩ := ⟨_, rfl, trivial, S6⟩
    have cT := spec_DataText_cM ⟨layT 203 0 t⟩ [.slice va ps.length vc] w3.heap.size hbk w6 GR
    obtain ⟨bD, hbD⟩ : ∃ x, x = w5.heap.size := ⟨_, rfl⟩
    rw [← hbD] at D6 ⊢
    have hbD2 : w0.heap.size < bD := by have := hb5.size; omega
    have d_0 := D6.box1
    replace cT := Lib.hid cT; replace hbD := Lib.hid hbD
    have hG : ∀ W, Below w6.heap.size w6 W → Sl GDNode.R 4 w3.heap.size W (.slice va ps.length vc) (layT 203 0 t) := fun W h => S6.below GDNode.good h
    replace hG := Lib.hid hG
    clear hW6 O5 GR S6 hb6 K5 hb5 hps hll
    generalize ps.length = n at *
    cases hq : ((dataText ⟨layT 203 0 t⟩).toList == s.toList)
    · have hn : textDataP s = none := by rw [htd.out]; exact if_neg fun e => by rw [e] at hq; simp at hq
      generalize dataText ⟨layT 203 0 t⟩ = tx at *
      replace hn := Lib.hid hn
      go_wp2_with (go_at_call 12; (with_reducible refine (cT.out).mono ?_); rintro e w7 ⟨rfl, hb7⟩; have F7 := F6.trans (RdF.of hb7 (by have := F6.size; omega)); obtain ⟨E7, EW7⟩ := ek.out _ F7; have e_0 := E7.box1; have ef_0 := EW7.frz 0 (by omega); have d_1 := (D6.below hb7).box1; have hsE7 := World.block_lt_of_cell? _ _ e_0; dsimp only at hsE7; have hfin := hfail.out w7 hn.out F7; replace hfin := Lib.hid hfin)
      have p_0 := cell_setCell_eq w7 w.heap.size 0 (.slice none 0 0) e_0
      refine bodyPost_ret (v := .tuple #[.agg #[.slice none 0 0], .bool false]) (by simp [results, Try.results15, go_sem, p_0]) rfl ?_
      exact hfin.out
    · have hn : textDataP s = some ⟨layT 203 0 t⟩ := by rw [htd.out]; exact if_pos ((toList_eq _ _).1 (eq_of_beq hq))
      generalize dataText ⟨layT 203 0 t⟩ = tx at *
      replace hn := Lib.hid hn
      go_wp2_with (go_at_call 12; (with_reducible refine (cT.out).mono ?_); rintro e w7 ⟨rfl, hb7⟩; have F7 := F6.trans (RdF.of hb7 (by have := F6.size; omega)); obtain ⟨E7, EW7⟩ := ek.out _ F7; have e_0 := E7.box1; have ef_0 := EW7.frz 0 (by omega); have d_1 := (D6.below hb7).box1; have hsE7 := World.block_lt_of_cell? _ _ e_0; dsimp only at hsE7; have hS7 := hG.out w7 hb7; replace hS7 := Lib.hid hS7)
      have p_0 := cell_setCell_eq w7 w.heap.size 0 (.slice va n vc) e_0
      refine bodyPost_ret (v := .tuple #[.agg #[.slice va n vc], .bool true]) (by simp [results, Try.results15, go_sem, p_0]) rfl ?_
      refine .inl ⟨⟨layT 203 0 t⟩, .slice va n vc, hn.out, rfl, ?_, (hw.trans (F7.below.mono (by omega))).setCell (p := ⟨w.heap.size, 0, none⟩) (Nat.le_refl _) _⟩
      have h8 := hS7.out.mono GDNode.good (show w.heap.size + 1 ≤ w3.heap.size by omega)
      exact (h8.agree GDNode.good (Agree.setCell (Agree.refl _ _) (p := ⟨w.heap.size, 0, none⟩) (by show w.heap.size < w.heap.size + 1; omega) _)).mono GDNode.good (by omega)
  · have hn : textDataP s = none := by
      rcases hE with ⟨hb, hps, hrd⟩ | ⟨_, hrd⟩
      · rcases Nat.lt_or_ge p s.size with h | h
        · exact td_more hrd h
        · exact absurd ⟨hb, by omega⟩ hgood
      · exact td_none hrd
    have hways : bad = true ∨ (bad = false ∧ ((p : Int) != (s.size : Int)) = true) := by
      cases bad with
      | true => exact .inl rfl
      | false => exact .inr ⟨rfl, by rw [bne_iff_ne]; exact fun h => hgood ⟨rfl, by omega⟩⟩
    replace hn := Lib.hid hn
    clear hE hgood
    rcases hways with rfl | ⟨rfl, d1⟩
    all_goals
      have hb4 : Below w3.heap.size w3 w3 := Below.refl _ _
      have F7 := F3.trans (RdF.of hb4 (by omega))
      obtain ⟨E7, EW7⟩ := ek.out _ F7
      have e_0 := E7.box1
      have ef_0 := EW7.frz 0 (by omega)
      have hsE7 := World.block_lt_of_cell? _ _ e_0; dsimp only at hsE7
      have hfin := hfail.out w3 hn.out F7
      replace hfin := Lib.hid hfin
      go_wp2_with fail
      have p_0 := cell_setCell_eq w3 w.heap.size 0 (.slice none 0 0) e_0
      refine bodyPost_ret (v := .tuple #[.agg #[.slice none 0 0], .bool false]) (by simp [results, Try.results15, go_sem, p_0]) rfl ?_
      exact hfin.out
end Go.Proofs.Ytpblhonnknmjjaa
