/- Parts of the proof, merged: Lx4. -/
import Derived.Test.YtaimekaagmcmnaaGreatNe24
/- The program's lexer: a token. -/
namespace Go.Proofs.YtaimekaagmcmnaaGreat
open Go.RowKit
set_option linter.unusedVariables false
set_option linter.unusedSimpArgs false
attribute [local go_sem] Ext.cell

theorem tokL_at {s : ByteArray} {k : Nat} (h : k < s.size) : tokL k (restB s k) =
    if digB s[k].toNat then (numL01 (wordL (restB s k))).map fun n => (⟨1, n, baL [], k⟩, (wordL (restB s k)).length)
    else if lowB s[k].toNat || upB s[k].toNat then (if nameK (baL (wordL (restB s k))) then some (⟨3, 0, baL (wordL (restB s k)), k⟩, (wordL (restB s k)).length) else if conOk (baL (wordL (restB s k))) then none else if kwK (baL (wordL (restB s k))) then some (⟨6, 0, baL (wordL (restB s k)), k⟩, (wordL (restB s k)).length) else none)
    else if s[k] = 39 ∨ s[k] = 34 then none
    else if symL (restB s k) = [] then none
    else some (⟨6, 0, baL (symL (restB s k)), k⟩, (symL (restB s k)).length) := by
  rw [restB_cons h]; rfl
theorem ret_tok {fn : Func} {tmps : Array Value} {a c d g : Nat} {v0 v1 v2 v3 u1 u2 : Value} {w : World} (hf : fn.results = #[.cell a 181, .tmp c, .tmp d]) (hp : tmps.getD a undef = .pointer (some ⟨g, 0, none⟩)) (hc : tmps.getD c undef = u1) (hd : tmps.getD d undef = u2) (h : RowAt w g 0 [v0, v1, v2, v3]) :
    (results fn tmps).run Tryz.prog w = .ok (.tuple #[.agg #[v0, v1, v2, v3], u1, u2]) w := by
  have hp' : tmps[a]?.getD undef = .pointer (some ⟨g, 0, none⟩) := by simpa using hp
  have hc' : tmps[c]?.getD undef = u1 := by simpa using hc
  have hd' : tmps[d]?.getD undef = u2 := by simpa using hd
  obtain ⟨h0, h1, h2, h3⟩ := h.box4
  simp [results, hf, go_sem, hp', hc', hd', h0, h1, h2, h3]
theorem row4 {w : World} {b : Nat} {a0 a1 a2 a3 : Value} (h : RowAt w b 0 [a0, a1, a2, a3]) (v0 v1 v2 v3 : Value) : RowAt ((((w.setCell ⟨b, 0, none⟩ v0).setCell ⟨b, 1, none⟩ v1).setCell ⟨b, 2, none⟩ v2).setCell ⟨b, 3, none⟩ v3) b 0 [v0, v1, v2, v3] :=
  (((h.putAt (j := 0) (by simp) v0).putAt (j := 1) (by simp) v1).putAt (j := 2) (by simp) v2).putAt (j := 3) (by simp) v3
theorem baL_size (l : List UInt8) : (baL l).size = l.length := by unfold baL; show l.toArray.size = _; simp
theorem baL_ok {l : List UInt8} (h : l.length ≤ 4000) : StrOk (baL l) := by show (baL l).size ≤ _; rw [baL_size]; omega
theorem baL_empty {l : List UInt8} (h : l ≠ []) : (baL l).toList.isEmpty = false := by rw [ByteArray.toList_eq]; unfold baL; cases l with | nil => exact absurd rfl h | cons a l => rfl
set_option maxRecDepth 100000 in
set_option maxHeartbeats 16000000 in
theorem token_c (s : ByteArray) (k b : Nat) (lv : Value) (hs : s.size ≤ 4000) (hk : k < s.size) (t : GTok) (n : Nat) (ht : tokL k (restB s k) = some (t, n)) (w : World) (R : LxS w b s k lv) :
    Calls Tryz.prog 134 #[.pointer (some ⟨b, 0, none⟩)] w fun e w' => e = .returned (.tuple #[.agg (tokRow t).toArray, .int .i64 (n : Int), .int .i64 0]) ∧ Below w.heap.size w w' := by
  generalize hP : (fun (e : Ending) (w' : World) => e = .returned (.tuple #[.agg (tokRow t).toArray, .int .i64 (n : Int), .int .i64 0]) ∧ Below w.heap.size w w') = P
  have hpost : ∀ W, Below w.heap.size w W → P (.returned (.tuple #[.agg (tokRow t).toArray, .int .i64 (n : Int), .int .i64 0])) W := fun W h => by rw [← hP]; exact ⟨rfl, h⟩
  clear hP
  replace hpost := Lib.hid hpost
  rw [tokL_at hk] at ht
  have hle := wordL_le s (Nat.le_of_lt hk)
  have hwl : (baL (wordL (restB s k))).size = (wordL (restB s k)).length := baL_size _
  have cW := fun W (hW : Below w.heap.size w W) => word_c s k b lv hs (Nat.le_of_lt hk) W (R.below hW)
  have cY := fun W (hW : Below w.heap.size w W) => symbol_c s k b lv hs hk W (R.below hW)
  have c1 := fun W => isDigit_c (s[k].toNat : Int) W
  have c2 := fun W => isLower_c (s[k].toNat : Int) W
  have c3 := fun W => isUpper_c (s[k].toNat : Int) W
  generalize digB s[k].toNat = q1 at *
  generalize lowB s[k].toNat = q2 at *
  generalize upB s[k].toNat = q3 at *
  replace cW := Lib.hid cW; replace cY := Lib.hid cY; replace c1 := Lib.hid c1; replace c2 := Lib.hid c2; replace c3 := Lib.hid c3
  go_enter Tryz.func134, Tryz.ntmps134
  go_upto_region 1 with fail
  obtain ⟨w1, hW1⟩ : ∃ W, W = w.alloc (.cells #[.int .i64 0, .int .i64 0, .string ⟨#[]⟩, .int .i64 0] 181) := ⟨_, rfl⟩
  rw [← hW1]
  have hb1 : Below w.heap.size w w1 := by rw [hW1]; go_grown
  have E1 : RowAt w1 w.heap.size 0 [.int .i64 0, .int .i64 0, .string ⟨#[]⟩, .int .i64 0] := by rw [hW1]; exact RowAt.box w #[_, _, _, _] _
  have EW1 : Wr w1 w.heap.size 0 4 := by rw [hW1]; exact Wr.box w #[_, _, _, _] _
  have R1 := R.below hb1
  clear hW1
  obtain ⟨r_0, r_1, r_2, r_3⟩ := R1.row.box4
  have hbl := R1.lt
  have hz1 := hb1.size
  (refine wp_region_ext_lit (by kernel_rfl) (by kernel_rfl) ?_; (repeat (any_goals (first | go_big_quiet_step (fail) | quiet_step (fail) | (refine wpQuiet_step (fun K hK => ?_); go_simp; split <;> (refine hK _ ?_; clear hK K))))); all_goals (refine wpQuiet_nil ?_; rintro wq ⟨⟨_, hbq⟩, rfl⟩))
  have R2 := R1.below hbq
  have E2 := E1.below hbq
  have EW2 := EW1.below hbq
  have hw2 := hb1.trans (hbq.mono hz1)
  have hz2 := hbq.size
  clear r_0 r_1 r_2 r_3 hbl R1 E1 EW1
  obtain ⟨r_0, r_1, r_2, r_3⟩ := R2.row.box4
  have hbl := R2.lt
  have hsE : w.heap.size < wq.heap.size := World.block_lt_of_cell? _ _ E2.box4.1
  go_upto_region 3 with fail
  obtain ⟨w3, hW3⟩ : ∃ W, W = wq.alloc (.cells #[.int .i64 0, .int .i64 0, .string ⟨#[]⟩, .int .i64 (k : Int)] 181) := ⟨_, rfl⟩
  rw [← hW3]
  have hb3 : Below wq.heap.size wq w3 := by rw [hW3]; go_grown
  have T3 : RowAt w3 wq.heap.size 0 [.int .i64 0, .int .i64 0, .string ⟨#[]⟩, .int .i64 (k : Int)] := by rw [hW3]; exact RowAt.box wq #[_, _, _, _] _
  have T3W : Wr w3 wq.heap.size 0 4 := by rw [hW3]; exact Wr.box wq #[_, _, _, _] _
  have E3 := E2.below hb3
  have E3W := EW2.below hb3
  have R3 := R2.below hb3
  have hw3 := hw2.trans (hb3.mono hw2.size)
  have hz3 : wq.heap.size < w3.heap.size := by rw [hW3]; simp
  obtain ⟨bT, hbT⟩ : ∃ x, x = wq.heap.size := ⟨_, rfl⟩
  rw [← hbT] at T3 T3W hz3 hsE ⊢
  clear hW3 r_0 r_1 r_2 r_3 hbl R2 E2 EW2 hb3 hbT hw2 hz2 hbq R
  cases q1
  · rw [if_neg (by simp)] at ht
    obtain ⟨q23, hq23⟩ : ∃ q, (q2 || q3) = q := ⟨_, rfl⟩
    rw [hq23] at ht
    cases q23
    · rw [if_neg (by simp)] at ht
      obtain ⟨rfl, rfl⟩ : q2 = false ∧ q3 = false := by simpa using hq23
      clear hq23
      split at ht
      · cases ht
      · rename_i hne
        split at ht
        · cases ht
        · rename_i hsy
          obtain ⟨rfl, rfl⟩ : (⟨6, 0, baL (symL (restB s k)), (k : Int)⟩ : GTok) = t ∧ (symL (restB s k)).length = n := by have := Option.some.inj ht; exact ⟨congrArg Prod.fst this, congrArg Prod.snd this⟩
          have d1 : ((s[k].toNat : Int) == 39) = false := beq_eq_false_iff_ne.2 fun h => hne (.inl (UInt8.toNat_inj.1 (by show s[k].toNat = 39; omega)))
          have d2 : ((s[k].toNat : Int) == 34) = false := beq_eq_false_iff_ne.2 fun h => hne (.inr (UInt8.toNat_inj.1 (by show s[k].toNat = 34; omega)))
          have hem := baL_empty hsy
          rw [← baL_size (symL (restB s k))] at hpost
          replace hsy := Lib.hid hsy
          clear ht hne
          generalize baL (symL (restB s k)) = sy at *
          obtain ⟨r_0, r_1, r_2, r_3⟩ := R3.row.box4
          have hbl := R3.lt
          go_upto_region 21 with (first | (go_at_call 130; (with_reducible refine (c1.out _).mono ?_); rintro e w4 ⟨rfl, rfl⟩) | (go_at_call 83; (with_reducible refine (c2.out _).mono ?_); rintro e w4 ⟨rfl, rfl⟩) | (go_at_call 128; (with_reducible refine (c3.out _).mono ?_); rintro e w4 ⟨rfl, rfl⟩))
          (refine wp_region_ext_lit (by kernel_rfl) (by kernel_rfl) ?_; (repeat (any_goals (first | go_big_quiet_step (fail) | quiet_step (fail) | (refine wpQuiet_step (fun K hK => ?_); go_simp; split <;> (refine hK _ ?_; clear hK K))))); all_goals (refine wpQuiet_nil ?_; rintro wr ⟨⟨_, hbr⟩, rfl⟩))
          have hwr := hw3.trans (hbr.mono hw3.size)
          have Tr := T3.below hbr
          have TWr := T3W.below hbr
          have Er := E3.below hbr
          have EWr := E3W.below hbr
          clear r_0 r_1 r_2 r_3 hbl R3 T3 T3W E3 E3W
          go_wp2_with (go_at_call 159; (with_reducible refine (cY.out _ hwr).mono ?_); rintro e w5 ⟨rfl, hb5⟩; have hw5 := hwr.trans (hb5.mono hwr.size); have T5 := Tr.below hb5; have T5W := TWr.below hb5; have E5 := Er.below hb5; have E5W := EWr.below hb5; have t5f_0 := T5W.frz 0 (by omega); have t5f_1 := T5W.frz 1 (by omega); have t5f_2 := T5W.frz 2 (by omega); have t5f_3 := T5W.frz 3 (by omega); obtain ⟨t5_0, t5_1, t5_2, t5_3⟩ := T5.box4; have hsT5 := World.block_lt_of_cell? _ _ t5_0; dsimp only at hsT5; have e5f_0 := E5W.frz 0 (by omega); have e5f_1 := E5W.frz 1 (by omega); have e5f_2 := E5W.frz 2 (by omega); have e5f_3 := E5W.frz 3 (by omega); obtain ⟨e5_0, e5_1, e5_2, e5_3⟩ := E5.box4; have hsE5 := World.block_lt_of_cell? _ _ e5_0; dsimp only at hsE5)
          have E9 := E5.kept (S := (· = bT)) (((Kept.refl (· = bT) w5).set (p := ⟨bT, 0, none⟩) rfl (.int .i64 6)).set (p := ⟨bT, 2, none⟩) rfl (.string sy)) (by omega)
          refine bodyPost_ret (ret_tok (a := 2) (c := 3) (d := 4) Tryz.results134 rfl rfl rfl (row4 E9 (.int .i64 6) (.int .i64 0) (.string sy) (.int .i64 (k : Int)))) rfl ?_
          exact hpost.out _ (by go_grown)
    · rw [if_pos rfl] at ht
      generalize hwl0 : wordL (restB s k) = wl at *
      have hso : StrOk (baL wl) := baL_ok (by omega)
      have cN := fun W => impl_NameOk_c (baL wl) hso W
      have cC := fun W => ConOk_c (baL wl) hso W
      have cK := fun W lo u (hu : Sl StrR 1 lo W u kwB) => containsS_c kwB (baL wl) lo u W hu
      rw [nameOk_nameK] at cN
      have hkk : (kwB.any fun y => (baL wl).toList == y.toList) = kwK (baL wl) := isKw_kwK (baL wl)
      rw [hkk] at cK
      generalize nameK (baL wl) = a1 at *
      generalize conOk (baL wl) = a2 at *
      generalize kwK (baL wl) = a3 at *
      rw [← hwl] at ht
      replace cN := Lib.hid cN; replace cC := Lib.hid cC; replace cK := Lib.hid cK; replace hwl0 := Lib.hid hwl0; replace hwl := Lib.hid hwl
      cases a1
      · rw [if_neg (by simp)] at ht
        cases a2
        · rw [if_neg (by simp)] at ht
          cases a3
          · rw [if_neg (by simp)] at ht; cases ht
          · rw [if_pos rfl] at ht
            obtain ⟨rfl, rfl⟩ : (⟨6, 0, baL wl, (k : Int)⟩ : GTok) = t ∧ (baL wl).size = n := by have := Option.some.inj ht; exact ⟨congrArg Prod.fst this, congrArg Prod.snd this⟩
            clear ht
            generalize baL wl = sw at *
            have t3f_0 := T3W.frz 0 (by omega); have t3f_1 := T3W.frz 1 (by omega); have t3f_2 := T3W.frz 2 (by omega); have t3f_3 := T3W.frz 3 (by omega); obtain ⟨t3_0, t3_1, t3_2, t3_3⟩ := T3.box4; have hsT3 := World.block_lt_of_cell? _ _ t3_0; dsimp only at hsT3; have e3f_0 := E3W.frz 0 (by omega); have e3f_1 := E3W.frz 1 (by omega); have e3f_2 := E3W.frz 2 (by omega); have e3f_3 := E3W.frz 3 (by omega); obtain ⟨e3_0, e3_1, e3_2, e3_3⟩ := E3.box4; have hsE3 := World.block_lt_of_cell? _ _ e3_0; dsimp only at hsE3
            cases q2
            · obtain rfl : q3 = true := by simpa using hq23
              clear hq23
              go_wp2_with (first
                | (go_at_call 130; (with_reducible refine (c1.out _).mono ?_); rintro e w4 ⟨rfl, rfl⟩)
                | (go_at_call 83; (with_reducible refine (c2.out _).mono ?_); rintro e w4 ⟨rfl, rfl⟩)
                | (go_at_call 128; (with_reducible refine (c3.out _).mono ?_); rintro e w4 ⟨rfl, rfl⟩)
                | (go_at_call 155; (with_reducible refine (cW.out _ hw3).mono ?_); rintro e w5 ⟨rfl, hb5⟩; have hw5 := hw3.trans (hb5.mono hw3.size); have T5' := T3.below hb5; have T5W' := T3W.below hb5; have E5 := E3.below hb5; have E5W := E3W.below hb5; have T5 := T5'.putAt (j := 2) (by simp) (.string sw); have T5W := T5W'.set 2 (.string sw); obtain ⟨t5_0, t5_1, t5_2, t5_3⟩ := T5'.box4; have f5_2 := T5W'.frz 2 (by omega))
                | (go_at_call 45; (with_reducible refine (cN.out _).mono ?_); rintro e w6 ⟨rfl, hb6⟩; have hw6 := (hw5.setCell (p := ⟨bT, 2, none⟩) (by show w.heap.size ≤ bT; omega) (.string sw)).trans (hb6.mono (by have := hw5.size; simpa [World.setCell] using this)); have T6 := T5.below hb6; have T6W := T5W.below hb6; have E6 := (E5.kept (S := (· = bT)) ((Kept.refl (· = bT) w5).set (p := ⟨bT, 2, none⟩) rfl (.string sw)) (by omega)).below hb6; have E6W := (E5W.kept (S := (· = bT)) ((Kept.refl (· = bT) w5).set (p := ⟨bT, 2, none⟩) rfl (.string sw)) (by omega)).below hb6; clear t5_0 t5_1 t5_2 t5_3 f5_2; have t6f_0 := T6W.frz 0 (by omega); have t6f_1 := T6W.frz 1 (by omega); have t6f_2 := T6W.frz 2 (by omega); have t6f_3 := T6W.frz 3 (by omega); obtain ⟨t6_0, t6_1, t6_2, t6_3⟩ := T6.box4; have hsT6 := World.block_lt_of_cell? _ _ t6_0; dsimp only at hsT6; have e6f_0 := E6W.frz 0 (by omega); have e6f_1 := E6W.frz 1 (by omega); have e6f_2 := E6W.frz 2 (by omega); have e6f_3 := E6W.frz 3 (by omega); obtain ⟨e6_0, e6_1, e6_2, e6_3⟩ := E6.box4; have hsE6 := World.block_lt_of_cell? _ _ e6_0; dsimp only at hsE6)
                | (go_at_call 111; (with_reducible refine (cC.out _).mono ?_); rintro e w7 ⟨rfl, rfl⟩)
                | (go_at_call 84; (with_reducible refine (keywords_c _).mono ?_); rintro e w8 ⟨gk, rfl, SK, hb8⟩; have T8 := T6.below hb8; have T8W := T6W.below hb8; have E8 := E6.below hb8; have E8W := E6W.below hb8; have hw8 := hw6.trans (hb8.mono hw6.size))
                | (go_at_call 50; (with_reducible refine (cK.out _ _ _ SK).mono ?_); rintro e w9 ⟨rfl, hb9⟩; have T9 := T8.below hb9; have T9W := T8W.below hb9; have E9 := E8.below hb9; have E9W := E8W.below hb9; have hw9 := hw8.trans (hb9.mono hw8.size); clear t6_0 t6_1 t6_2 t6_3 e6_0 e6_1 e6_2 e6_3; have t9f_0 := T9W.frz 0 (by omega); have t9f_1 := T9W.frz 1 (by omega); have t9f_2 := T9W.frz 2 (by omega); have t9f_3 := T9W.frz 3 (by omega); obtain ⟨t9_0, t9_1, t9_2, t9_3⟩ := T9.box4; have hsT9 := World.block_lt_of_cell? _ _ t9_0; dsimp only at hsT9; have e9f_0 := E9W.frz 0 (by omega); have e9f_1 := E9W.frz 1 (by omega); have e9f_2 := E9W.frz 2 (by omega); have e9f_3 := E9W.frz 3 (by omega); obtain ⟨e9_0, e9_1, e9_2, e9_3⟩ := E9.box4; have hsE9 := World.block_lt_of_cell? _ _ e9_0; dsimp only at hsE9))
              have EF := E9.kept (S := (· = bT)) ((Kept.refl (· = bT) w9).set (p := ⟨bT, 0, none⟩) rfl (.int .i64 6)) (by omega)
              refine bodyPost_ret (ret_tok (a := 2) (c := 3) (d := 4) Tryz.results134 rfl rfl rfl (row4 EF (.int .i64 6) (.int .i64 0) (.string sw) (.int .i64 (k : Int)))) rfl ?_
              exact hpost.out _ (by go_grown)
            · clear hq23
              go_wp2_with (first
                | (go_at_call 130; (with_reducible refine (c1.out _).mono ?_); rintro e w4 ⟨rfl, rfl⟩)
                | (go_at_call 83; (with_reducible refine (c2.out _).mono ?_); rintro e w4 ⟨rfl, rfl⟩)
                | (go_at_call 128; (with_reducible refine (c3.out _).mono ?_); rintro e w4 ⟨rfl, rfl⟩)
                | (go_at_call 155; (with_reducible refine (cW.out _ hw3).mono ?_); rintro e w5 ⟨rfl, hb5⟩; have hw5 := hw3.trans (hb5.mono hw3.size); have T5' := T3.below hb5; have T5W' := T3W.below hb5; have E5 := E3.below hb5; have E5W := E3W.below hb5; have T5 := T5'.putAt (j := 2) (by simp) (.string sw); have T5W := T5W'.set 2 (.string sw); obtain ⟨t5_0, t5_1, t5_2, t5_3⟩ := T5'.box4; have f5_2 := T5W'.frz 2 (by omega))
                | (go_at_call 45; (with_reducible refine (cN.out _).mono ?_); rintro e w6 ⟨rfl, hb6⟩; have hw6 := (hw5.setCell (p := ⟨bT, 2, none⟩) (by show w.heap.size ≤ bT; omega) (.string sw)).trans (hb6.mono (by have := hw5.size; simpa [World.setCell] using this)); have T6 := T5.below hb6; have T6W := T5W.below hb6; have E6 := (E5.kept (S := (· = bT)) ((Kept.refl (· = bT) w5).set (p := ⟨bT, 2, none⟩) rfl (.string sw)) (by omega)).below hb6; have E6W := (E5W.kept (S := (· = bT)) ((Kept.refl (· = bT) w5).set (p := ⟨bT, 2, none⟩) rfl (.string sw)) (by omega)).below hb6; clear t5_0 t5_1 t5_2 t5_3 f5_2; have t6f_0 := T6W.frz 0 (by omega); have t6f_1 := T6W.frz 1 (by omega); have t6f_2 := T6W.frz 2 (by omega); have t6f_3 := T6W.frz 3 (by omega); obtain ⟨t6_0, t6_1, t6_2, t6_3⟩ := T6.box4; have hsT6 := World.block_lt_of_cell? _ _ t6_0; dsimp only at hsT6; have e6f_0 := E6W.frz 0 (by omega); have e6f_1 := E6W.frz 1 (by omega); have e6f_2 := E6W.frz 2 (by omega); have e6f_3 := E6W.frz 3 (by omega); obtain ⟨e6_0, e6_1, e6_2, e6_3⟩ := E6.box4; have hsE6 := World.block_lt_of_cell? _ _ e6_0; dsimp only at hsE6)
                | (go_at_call 111; (with_reducible refine (cC.out _).mono ?_); rintro e w7 ⟨rfl, rfl⟩)
                | (go_at_call 84; (with_reducible refine (keywords_c _).mono ?_); rintro e w8 ⟨gk, rfl, SK, hb8⟩; have T8 := T6.below hb8; have T8W := T6W.below hb8; have E8 := E6.below hb8; have E8W := E6W.below hb8; have hw8 := hw6.trans (hb8.mono hw6.size))
                | (go_at_call 50; (with_reducible refine (cK.out _ _ _ SK).mono ?_); rintro e w9 ⟨rfl, hb9⟩; have T9 := T8.below hb9; have T9W := T8W.below hb9; have E9 := E8.below hb9; have E9W := E8W.below hb9; have hw9 := hw8.trans (hb9.mono hw8.size); clear t6_0 t6_1 t6_2 t6_3 e6_0 e6_1 e6_2 e6_3; have t9f_0 := T9W.frz 0 (by omega); have t9f_1 := T9W.frz 1 (by omega); have t9f_2 := T9W.frz 2 (by omega); have t9f_3 := T9W.frz 3 (by omega); obtain ⟨t9_0, t9_1, t9_2, t9_3⟩ := T9.box4; have hsT9 := World.block_lt_of_cell? _ _ t9_0; dsimp only at hsT9; have e9f_0 := E9W.frz 0 (by omega); have e9f_1 := E9W.frz 1 (by omega); have e9f_2 := E9W.frz 2 (by omega); have e9f_3 := E9W.frz 3 (by omega); obtain ⟨e9_0, e9_1, e9_2, e9_3⟩ := E9.box4; have hsE9 := World.block_lt_of_cell? _ _ e9_0; dsimp only at hsE9))
              have EF := E9.kept (S := (· = bT)) ((Kept.refl (· = bT) w9).set (p := ⟨bT, 0, none⟩) rfl (.int .i64 6)) (by omega)
              refine bodyPost_ret (ret_tok (a := 2) (c := 3) (d := 4) Tryz.results134 rfl rfl rfl (row4 EF (.int .i64 6) (.int .i64 0) (.string sw) (.int .i64 (k : Int)))) rfl ?_
              exact hpost.out _ (by go_grown)
        · rw [if_pos rfl] at ht; cases ht
      · rw [if_pos rfl] at ht
        obtain ⟨rfl, rfl⟩ : (⟨3, 0, baL wl, (k : Int)⟩ : GTok) = t ∧ (baL wl).size = n := by have := Option.some.inj ht; exact ⟨congrArg Prod.fst this, congrArg Prod.snd this⟩
        clear ht
        generalize baL wl = sw at *
        have t3f_0 := T3W.frz 0 (by omega); have t3f_1 := T3W.frz 1 (by omega); have t3f_2 := T3W.frz 2 (by omega); have t3f_3 := T3W.frz 3 (by omega); obtain ⟨t3_0, t3_1, t3_2, t3_3⟩ := T3.box4; have hsT3 := World.block_lt_of_cell? _ _ t3_0; dsimp only at hsT3; have e3f_0 := E3W.frz 0 (by omega); have e3f_1 := E3W.frz 1 (by omega); have e3f_2 := E3W.frz 2 (by omega); have e3f_3 := E3W.frz 3 (by omega); obtain ⟨e3_0, e3_1, e3_2, e3_3⟩ := E3.box4; have hsE3 := World.block_lt_of_cell? _ _ e3_0; dsimp only at hsE3
        cases q2
        · obtain rfl : q3 = true := by simpa using hq23
          clear hq23
          go_wp2_with (first
            | (go_at_call 130; (with_reducible refine (c1.out _).mono ?_); rintro e w4 ⟨rfl, rfl⟩)
            | (go_at_call 83; (with_reducible refine (c2.out _).mono ?_); rintro e w4 ⟨rfl, rfl⟩)
            | (go_at_call 128; (with_reducible refine (c3.out _).mono ?_); rintro e w4 ⟨rfl, rfl⟩)
            | (go_at_call 155; (with_reducible refine (cW.out _ hw3).mono ?_); rintro e w5 ⟨rfl, hb5⟩; have hw5 := hw3.trans (hb5.mono hw3.size); have T5' := T3.below hb5; have T5W' := T3W.below hb5; have E5 := E3.below hb5; have E5W := E3W.below hb5; have T5 := T5'.putAt (j := 2) (by simp) (.string sw); have T5W := T5W'.set 2 (.string sw); obtain ⟨t5_0, t5_1, t5_2, t5_3⟩ := T5'.box4; have f5_2 := T5W'.frz 2 (by omega))
            | (go_at_call 45; (with_reducible refine (cN.out _).mono ?_); rintro e w6 ⟨rfl, hb6⟩; have hw6 := (hw5.setCell (p := ⟨bT, 2, none⟩) (by show w.heap.size ≤ bT; omega) (.string sw)).trans (hb6.mono (by have := hw5.size; simpa [World.setCell] using this)); have T6 := T5.below hb6; have T6W := T5W.below hb6; have E6 := (E5.kept (S := (· = bT)) ((Kept.refl (· = bT) w5).set (p := ⟨bT, 2, none⟩) rfl (.string sw)) (by omega)).below hb6; have E6W := (E5W.kept (S := (· = bT)) ((Kept.refl (· = bT) w5).set (p := ⟨bT, 2, none⟩) rfl (.string sw)) (by omega)).below hb6; clear t5_0 t5_1 t5_2 t5_3 f5_2; have t6f_0 := T6W.frz 0 (by omega); have t6f_1 := T6W.frz 1 (by omega); have t6f_2 := T6W.frz 2 (by omega); have t6f_3 := T6W.frz 3 (by omega); obtain ⟨t6_0, t6_1, t6_2, t6_3⟩ := T6.box4; have hsT6 := World.block_lt_of_cell? _ _ t6_0; dsimp only at hsT6; have e6f_0 := E6W.frz 0 (by omega); have e6f_1 := E6W.frz 1 (by omega); have e6f_2 := E6W.frz 2 (by omega); have e6f_3 := E6W.frz 3 (by omega); obtain ⟨e6_0, e6_1, e6_2, e6_3⟩ := E6.box4; have hsE6 := World.block_lt_of_cell? _ _ e6_0; dsimp only at hsE6)
            | (go_at_call 111; (with_reducible refine (cC.out _).mono ?_); rintro e w7 ⟨rfl, rfl⟩)
            | (go_at_call 84; (with_reducible refine (keywords_c _).mono ?_); rintro e w8 ⟨gk, rfl, SK, hb8⟩; have T8 := T6.below hb8; have T8W := T6W.below hb8; have E8 := E6.below hb8; have E8W := E6W.below hb8; have hw8 := hw6.trans (hb8.mono hw6.size))
            | (go_at_call 50; (with_reducible refine (cK.out _ _ _ SK).mono ?_); rintro e w9 ⟨rfl, hb9⟩; have T9 := T8.below hb9; have T9W := T8W.below hb9; have E9 := E8.below hb9; have E9W := E8W.below hb9; have hw9 := hw8.trans (hb9.mono hw8.size); clear t6_0 t6_1 t6_2 t6_3 e6_0 e6_1 e6_2 e6_3; have t9f_0 := T9W.frz 0 (by omega); have t9f_1 := T9W.frz 1 (by omega); have t9f_2 := T9W.frz 2 (by omega); have t9f_3 := T9W.frz 3 (by omega); obtain ⟨t9_0, t9_1, t9_2, t9_3⟩ := T9.box4; have hsT9 := World.block_lt_of_cell? _ _ t9_0; dsimp only at hsT9; have e9f_0 := E9W.frz 0 (by omega); have e9f_1 := E9W.frz 1 (by omega); have e9f_2 := E9W.frz 2 (by omega); have e9f_3 := E9W.frz 3 (by omega); obtain ⟨e9_0, e9_1, e9_2, e9_3⟩ := E9.box4; have hsE9 := World.block_lt_of_cell? _ _ e9_0; dsimp only at hsE9))
          have EF := E6.kept (S := (· = bT)) ((Kept.refl (· = bT) w6).set (p := ⟨bT, 0, none⟩) rfl (.int .i64 3)) (by omega)
          refine bodyPost_ret (ret_tok (a := 2) (c := 3) (d := 4) Tryz.results134 rfl rfl rfl (row4 EF (.int .i64 3) (.int .i64 0) (.string sw) (.int .i64 (k : Int)))) rfl ?_
          exact hpost.out _ (by go_grown)
        · clear hq23
          go_wp2_with (first
            | (go_at_call 130; (with_reducible refine (c1.out _).mono ?_); rintro e w4 ⟨rfl, rfl⟩)
            | (go_at_call 83; (with_reducible refine (c2.out _).mono ?_); rintro e w4 ⟨rfl, rfl⟩)
            | (go_at_call 128; (with_reducible refine (c3.out _).mono ?_); rintro e w4 ⟨rfl, rfl⟩)
            | (go_at_call 155; (with_reducible refine (cW.out _ hw3).mono ?_); rintro e w5 ⟨rfl, hb5⟩; have hw5 := hw3.trans (hb5.mono hw3.size); have T5' := T3.below hb5; have T5W' := T3W.below hb5; have E5 := E3.below hb5; have E5W := E3W.below hb5; have T5 := T5'.putAt (j := 2) (by simp) (.string sw); have T5W := T5W'.set 2 (.string sw); obtain ⟨t5_0, t5_1, t5_2, t5_3⟩ := T5'.box4; have f5_2 := T5W'.frz 2 (by omega))
            | (go_at_call 45; (with_reducible refine (cN.out _).mono ?_); rintro e w6 ⟨rfl, hb6⟩; have hw6 := (hw5.setCell (p := ⟨bT, 2, none⟩) (by show w.heap.size ≤ bT; omega) (.string sw)).trans (hb6.mono (by have := hw5.size; simpa [World.setCell] using this)); have T6 := T5.below hb6; have T6W := T5W.below hb6; have E6 := (E5.kept (S := (· = bT)) ((Kept.refl (· = bT) w5).set (p := ⟨bT, 2, none⟩) rfl (.string sw)) (by omega)).below hb6; have E6W := (E5W.kept (S := (· = bT)) ((Kept.refl (· = bT) w5).set (p := ⟨bT, 2, none⟩) rfl (.string sw)) (by omega)).below hb6; clear t5_0 t5_1 t5_2 t5_3 f5_2; have t6f_0 := T6W.frz 0 (by omega); have t6f_1 := T6W.frz 1 (by omega); have t6f_2 := T6W.frz 2 (by omega); have t6f_3 := T6W.frz 3 (by omega); obtain ⟨t6_0, t6_1, t6_2, t6_3⟩ := T6.box4; have hsT6 := World.block_lt_of_cell? _ _ t6_0; dsimp only at hsT6; have e6f_0 := E6W.frz 0 (by omega); have e6f_1 := E6W.frz 1 (by omega); have e6f_2 := E6W.frz 2 (by omega); have e6f_3 := E6W.frz 3 (by omega); obtain ⟨e6_0, e6_1, e6_2, e6_3⟩ := E6.box4; have hsE6 := World.block_lt_of_cell? _ _ e6_0; dsimp only at hsE6)
            | (go_at_call 111; (with_reducible refine (cC.out _).mono ?_); rintro e w7 ⟨rfl, rfl⟩)
            | (go_at_call 84; (with_reducible refine (keywords_c _).mono ?_); rintro e w8 ⟨gk, rfl, SK, hb8⟩; have T8 := T6.below hb8; have T8W := T6W.below hb8; have E8 := E6.below hb8; have E8W := E6W.below hb8; have hw8 := hw6.trans (hb8.mono hw6.size))
            | (go_at_call 50; (with_reducible refine (cK.out _ _ _ SK).mono ?_); rintro e w9 ⟨rfl, hb9⟩; have T9 := T8.below hb9; have T9W := T8W.below hb9; have E9 := E8.below hb9; have E9W := E8W.below hb9; have hw9 := hw8.trans (hb9.mono hw8.size); clear t6_0 t6_1 t6_2 t6_3 e6_0 e6_1 e6_2 e6_3; have t9f_0 := T9W.frz 0 (by omega); have t9f_1 := T9W.frz 1 (by omega); have t9f_2 := T9W.frz 2 (by omega); have t9f_3 := T9W.frz 3 (by omega); obtain ⟨t9_0, t9_1, t9_2, t9_3⟩ := T9.box4; have hsT9 := World.block_lt_of_cell? _ _ t9_0; dsimp only at hsT9; have e9f_0 := E9W.frz 0 (by omega); have e9f_1 := E9W.frz 1 (by omega); have e9f_2 := E9W.frz 2 (by omega); have e9f_3 := E9W.frz 3 (by omega); obtain ⟨e9_0, e9_1, e9_2, e9_3⟩ := E9.box4; have hsE9 := World.block_lt_of_cell? _ _ e9_0; dsimp only at hsE9))
          have EF := E6.kept (S := (· = bT)) ((Kept.refl (· = bT) w6).set (p := ⟨bT, 0, none⟩) rfl (.int .i64 3)) (by omega)
          refine bodyPost_ret (ret_tok (a := 2) (c := 3) (d := 4) Tryz.results134 rfl rfl rfl (row4 EF (.int .i64 3) (.int .i64 0) (.string sw) (.int .i64 (k : Int)))) rfl ?_
          exact hpost.out _ (by go_grown)
  · rw [if_pos rfl] at ht
    obtain ⟨n0, hn0, hnt⟩ := Option.map_eq_some_iff.1 ht
    obtain ⟨rfl, rfl⟩ : (⟨1, n0, baL [], (k : Int)⟩ : GTok) = t ∧ (wordL (restB s k)).length = n := ⟨congrArg Prod.fst hnt, congrArg Prod.snd hnt⟩
    have cN := fun W => textNum01_c (wordL (restB s k)) n0 hn0 W
    rw [← hwl, show tokRow ⟨1, n0, baL [], (k : Int)⟩ = [.int .i64 1, .int .i64 n0, .string ⟨#[]⟩, .int .i64 (k : Int)] from rfl] at hpost
    replace hwl := Lib.hid hwl
    clear ht hnt hn0
    generalize baL (wordL (restB s k)) = sw at *
    replace cN := Lib.hid cN
    have t3f_0 := T3W.frz 0 (by omega); have t3f_1 := T3W.frz 1 (by omega); have t3f_2 := T3W.frz 2 (by omega); have t3f_3 := T3W.frz 3 (by omega); obtain ⟨t3_0, t3_1, t3_2, t3_3⟩ := T3.box4; have hsT3 := World.block_lt_of_cell? _ _ t3_0; dsimp only at hsT3; have e3f_0 := E3W.frz 0 (by omega); have e3f_1 := E3W.frz 1 (by omega); have e3f_2 := E3W.frz 2 (by omega); have e3f_3 := E3W.frz 3 (by omega); obtain ⟨e3_0, e3_1, e3_2, e3_3⟩ := E3.box4; have hsE3 := World.block_lt_of_cell? _ _ e3_0; dsimp only at hsE3
    go_wp2_with (first
      | (go_at_call 130; (with_reducible refine (c1.out _).mono ?_); rintro e w4 ⟨rfl, rfl⟩)
      | (go_at_call 155; (with_reducible refine (cW.out _ hw3).mono ?_); rintro e w5 ⟨rfl, hb5⟩; have hw5 := hw3.trans (hb5.mono hw3.size); have T5 := T3.below hb5; have T5W := T3W.below hb5; have E5 := E3.below hb5; have E5W := E3W.below hb5; clear t3_0 t3_1 t3_2 t3_3 e3_0 e3_1 e3_2 e3_3; have t5f_0 := T5W.frz 0 (by omega); have t5f_1 := T5W.frz 1 (by omega); have t5f_2 := T5W.frz 2 (by omega); have t5f_3 := T5W.frz 3 (by omega); obtain ⟨t5_0, t5_1, t5_2, t5_3⟩ := T5.box4; have hsT5 := World.block_lt_of_cell? _ _ t5_0; dsimp only at hsT5; have e5f_0 := E5W.frz 0 (by omega); have e5f_1 := E5W.frz 1 (by omega); have e5f_2 := E5W.frz 2 (by omega); have e5f_3 := E5W.frz 3 (by omega); obtain ⟨e5_0, e5_1, e5_2, e5_3⟩ := E5.box4; have hsE5 := World.block_lt_of_cell? _ _ e5_0; dsimp only at hsE5)
      | (go_at_call 156; (with_reducible refine (cN.out _).mono ?_); rintro e w6 ⟨rfl, hb6⟩; have hw6 := hw5.trans (hb6.mono hw5.size); have T6 := T5.below hb6; have T6W := T5W.below hb6; have E6 := E5.below hb6; have E6W := E5W.below hb6; clear t5_0 t5_1 t5_2 t5_3 e5_0 e5_1 e5_2 e5_3; have t6f_0 := T6W.frz 0 (by omega); have t6f_1 := T6W.frz 1 (by omega); have t6f_2 := T6W.frz 2 (by omega); have t6f_3 := T6W.frz 3 (by omega); obtain ⟨t6_0, t6_1, t6_2, t6_3⟩ := T6.box4; have hsT6 := World.block_lt_of_cell? _ _ t6_0; dsimp only at hsT6; have e6f_0 := E6W.frz 0 (by omega); have e6f_1 := E6W.frz 1 (by omega); have e6f_2 := E6W.frz 2 (by omega); have e6f_3 := E6W.frz 3 (by omega); obtain ⟨e6_0, e6_1, e6_2, e6_3⟩ := E6.box4; have hsE6 := World.block_lt_of_cell? _ _ e6_0; dsimp only at hsE6))
    have E9 := E6.kept (S := (· = bT)) (((Kept.refl (· = bT) w6).set (p := ⟨bT, 0, none⟩) rfl (.int .i64 1)).set (p := ⟨bT, 1, none⟩) rfl (.int .i64 n0)) (by omega)
    refine bodyPost_ret (ret_tok (a := 2) (c := 3) (d := 4) Tryz.results134 rfl rfl rfl (row4 E9 (.int .i64 1) (.int .i64 n0) (.string ⟨#[]⟩) (.int .i64 (k : Int)))) rfl ?_
    exact hpost.out _ (by go_grown)
end Go.Proofs.YtaimekaagmcmnaaGreat
