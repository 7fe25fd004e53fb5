/- Parts of the proof, merged: CodeText3. -/
import Derived.Test.YtklfepnokidnaaaSc21
/- The text of a code: the reference's. -/
namespace Go.Proofs.Ytklfepnokidnaaa
open Go.RowKit
set_option linter.unusedVariables false
set_option linter.unusedSimpArgs false
attribute [local go_sem] Ext.cell

theorem opKindS (op : Int) : op = 20 ∨ (op = 7 ∨ op = 16) ∨ op = 4 ∨ op = 2 ∨ (op = 1 ∨ op = 6 ∨ op = 15 ∨ op = 8 ∨ op = 9 ∨ op = 12 ∨ op = 13 ∨ op = 18) ∨ (((op == 20) = false ∧ (op == 7) = false ∧ (op == 4) = false ∧ (op == 16) = false ∧ (op == 2) = false) ∧ (op == 1) = false ∧ (op == 6) = false ∧ (op == 15) = false ∧ (op == 8) = false ∧ (op == 9) = false ∧ (op == 12) = false ∧ (op == 13) = false ∧ (op == 18) = false) := by
  simp only [beq_eq_false_iff_ne, ne_eq]
  omega
theorem shows_no {op : Int} (h20 : (op == 20) = false) (h4 : (op == 4) = false) (h : (op == 1) = false ∧ (op == 6) = false ∧ (op == 15) = false ∧ (op == 8) = false ∧ (op == 9) = false ∧ (op == 12) = false ∧ (op == 13) = false ∧ (op == 18) = false) : showsA op = false := by
  obtain ⟨h1, h6, h15, h8, h9, h12, h13, h18⟩ := h
  have hl : leadsP op = false := by
    cases hq : leadsP op with
    | false => rfl
    | true => rcases leadsP_cases hq with rfl | rfl | rfl | rfl | rfl <;> first | exact absurd h8 (by decide) | exact absurd h9 (by decide) | exact absurd h12 (by decide) | exact absurd h13 (by decide) | exact absurd h18 (by decide)
  unfold showsA aOps
  rw [hl]
  simp only [List.any_cons, List.any_nil, h1, h4, h6, h15, h20]
  rfl

set_option maxRecDepth 100000 in
set_option maxHeartbeats 16000000 in
theorem specCodeText_w (c : GCode) (ok : Bool) (hsz : ∀ x ∈ c.ins, x.s.size ≤ 1048576) (hok : ok = true → c.ins.length ≤ 3000 ∧ ∀ x ∈ c.ins, (1 ≤ x.op ∧ x.op ≤ 25) ∧ (x.op ≠ 2 → x.s.toList.isEmpty = !showsS x.op)) (r : List Value) (lo : Nat) (w : World) (hr : GCode.R lo w r c)
    (cK : ∀ W, Below w.heap.size w W → Calls Try.prog 11 #[.agg r.toArray] W fun e w' => e = .returned (.bool ok) ∧ Below W.heap.size W w') :
    Calls Try.prog 12 #[.agg r.toArray] w fun e w' => e = .returned (.string (if ok = true then codeLines c.ins c.ins.length else ByteArray.empty)) ∧ Below w.heap.size w w' := by
  obtain ⟨u0, u1, rfl, _, h0, h1⟩ := hr
  obtain ⟨ia, ic, rfl, il, im, h0⟩ := h0
  obtain ⟨pa, pc, rfl⟩ := h1.form
  clear h1
  cases ok
  · rw [if_neg (by decide)]
    clear h0 il im hok
    replace cK := Lib.hid cK
    generalize c.ins.length = n at *
    generalize c.pats.length = m at *
    go_enter Try.func12, Try.ntmps12
    go_upto_region 1 with fail
    have C : RowAt (w.alloc (.cells #[.slice ia n ic, .slice pa m pc] 31)) (w.heap.size) 0 [.slice ia n ic, .slice pa m pc] := RowAt.box w #[.slice ia n ic, .slice pa m pc] 31
    have hw : Below w.heap.size w (w.alloc (.cells #[.slice ia n ic, .slice pa m pc] 31)) := by go_grown
    generalize (w.alloc (.cells #[.slice ia n ic, .slice pa m pc] 31)) = w0 at *
    obtain ⟨c_0, c_1⟩ := C.box2; have hsC := World.block_lt_of_cell? _ _ c_0; dsimp only at hsC
    go_wp2_with (go_at_call 11; ((with_reducible refine (cK.out _ hw).mono ?_); rintro e w1 ⟨rfl, hb⟩; have hw := hw.trans (hb.mono hw.size); have C := C.below hb; obtain ⟨c_0, c_1⟩ := C.box2; have hsC := World.block_lt_of_cell? _ _ c_0; dsimp only at hsC; clear hb))
    go_returns
    exact ⟨rfl, hw⟩
  · rw [if_pos rfl]
    obtain ⟨n2, hops⟩ := hok rfl
    obtain ⟨is, qs⟩ := c
    dsimp only at *
    obtain ⟨n, hn⟩ : ∃ n, n = is.length := ⟨_, rfl⟩
    obtain ⟨m, hm⟩ : ∃ m, m = qs.length := ⟨_, rfl⟩
    have hlen := codeLines_len is hsz
    have hsuc := fun k x => @codeLines_succ is k x
    obtain ⟨R, hR⟩ : ∃ R, codeLines is is.length = R := ⟨_, rfl⟩
    rw [hR]
    have hzero : codeLines is 0 = ByteArray.empty := rfl
    rw [← hn] at il n2 hlen hR
    rw [← hn, ← hm] at cK ⊢
    generalize codeLines is = T at *
    clear hok
    replace hn := Lib.hid hn; replace hm := Lib.hid hm; replace h0 := Lib.hid h0; replace cK := Lib.hid cK; replace hops := Lib.hid hops; replace hsz := Lib.hid hsz; replace hlen := Lib.hid hlen; replace hsuc := Lib.hid hsuc; replace hR := Lib.hid hR; replace hzero := Lib.hid hzero
    go_enter Try.func12, Try.ntmps12
    go_upto_region 1 with fail
    have C : RowAt (w.alloc (.cells #[.slice ia n ic, .slice pa m pc] 31)) (w.heap.size) 0 [.slice ia n ic, .slice pa m pc] := RowAt.box w #[.slice ia n ic, .slice pa m pc] 31
    have hw : Below w.heap.size w (w.alloc (.cells #[.slice ia n ic, .slice pa m pc] 31)) := by go_grown
    generalize (w.alloc (.cells #[.slice ia n ic, .slice pa m pc] 31)) = w0 at *
    obtain ⟨c_0, c_1⟩ := C.box2; have hsC := World.block_lt_of_cell? _ _ c_0; dsimp only at hsC
    go_upto_region 3 with (go_at_call 11; ((with_reducible refine (cK.out _ hw).mono ?_); rintro e w1 ⟨rfl, hb⟩; have hw := hw.trans (hb.mono hw.size); have C := C.below hb; obtain ⟨c_0, c_1⟩ := C.box2; have hsC := World.block_lt_of_cell? _ _ c_0; dsimp only at hsC; clear hb))
    go_wp2_with fail
    go_loopw [3, 12] (fun v i wr => ∃ (k : Nat) (t : ByteArray), k ≤ n ∧ i = .int .i64 k ∧ v = .string t ∧ Below w.heap.size w wr ∧ Hid (t = T k)) (fun _ i _ => n - (intOf i).toNat)
    case atStart => exact ⟨0, _, by omega, rfl, rfl, hw, by rw [hzero.out]; rfl⟩
    case round =>
      clear hw C c_0 c_1 hsC cK
      obtain ⟨k, t, hk, rfl, rfl, hw, ht⟩ := hrel
      by_cases hlt : k < n
      · have ht2 : t.size ≤ k * 4194401 := by rw [ht.out]; exact hlen.out k hk
        obtain ⟨b1, o1, x, s1', _, hab, P1, ⟨rfl, hxw⟩, r1⟩ := (h0.out.below GIns.good hw).get hn hlt
        obtain ⟨e_0, e_1, e_2, e_3⟩ := r1.cells4
        have hxm := List.mem_of_getElem? P1.out
        have hst := hsuc.out k x P1.out
        obtain ⟨⟨o0, o1'⟩, hem⟩ := hops.out x hxm
        have hs0 := hsz.out x hxm
        obtain ⟨l1, l2, l3⟩ := line_len (k := k) hs0
        have hk3 : (k : Int) ≤ 1048576 := by omega
        obtain ⟨op, a, b, s⟩ := x
        dsimp only at *
        subst hab
        have hL1 : t ++ numText k ++ ⟨#[32]⟩ ++ opN op = t ++ line1 k ⟨op, a, b, s⟩ := by unfold line1; simp only [ByteArray.append_assoc]; rfl
        have q1 := numText_len k
        have q2 := opN_len op
        have q3 := numText_len a
        have q4 := numText_len b
        have q5 := quoteS_len s
        have t0 : ¬ (9223372036854775807 < t.size + (numText k).size) := by omega
        have t1 : ¬ (9223372036854775807 < t.size + (numText k).size + 1) := by omega
        have t2 : ¬ (9223372036854775807 < t.size + (numText k).size + 1 + (opN op).size) := by omega
        have hk64 : I64 ((k : Nat) : Int) := by constructor <;> omega
        have ha64 : I64 a := hxw.2.1
        have hb64 : I64 b := hxw.2.2.1
        clear r1 P1 hxm
        go_upto_region 7 with fail
        obtain ⟨w3, hW3⟩ : ∃ W, W = wr.alloc (.cells #[.int .i64 op, .int .i64 a, .int .i64 b, .string s] 56) := ⟨_, rfl⟩
        rw [← hW3]
        have hb3 : Below wr.heap.size wr w3 := by rw [hW3]; go_grown
        have Q : RowAt w3 wr.heap.size 0 [.int .i64 op, .int .i64 a, .int .i64 b, .string s] := by rw [hW3]; exact RowAt.box wr #[_, _, _, _] _
        obtain ⟨bI, hbI⟩ : ∃ x, x = wr.heap.size := ⟨_, rfl⟩
        have hw := hw.trans (hb3.mono hw.size)
        rw [← hbI] at Q ⊢
        clear hW3 hb3 e_0 e_1 e_2 e_3 hxw
        replace hbI := Lib.hid hbI; replace hL1 := Lib.hid hL1; replace ha64 := Lib.hid ha64; replace hb64 := Lib.hid hb64; replace hst := Lib.hid hst; replace hem := Lib.hid hem; replace hk64 := Lib.hid hk64
        obtain ⟨q_0, q_1, q_2, q_3⟩ := Q.box4; have hsQ := World.block_lt_of_cell? _ _ q_0; dsimp only at hsQ
        go_cut [3] (fun v wx => v = .string (t ++ line1 k ⟨op, a, b, s⟩) ∧ Below w3.heap.size w3 wx)
        case first =>
          go_region_law (first
            | (go_simp; go_at_call 27; (with_reducible refine (spec_NumText_c k hk64.out _).mono ?_); rintro e w4 ⟨rfl, hb⟩; have hb4 : Below w3.heap.size w3 w4 := Below.trans (by go_grown) (hb.mono (by go_grown)); have Q4 := Q.below hb4; obtain ⟨q4_0, q4_1, q4_2, q4_3⟩ := Q4.box4; have hsQ4 := World.block_lt_of_cell? _ _ q4_0; dsimp only at hsQ4)
            | (go_simp; go_at_call 28; (with_reducible refine (l10Name_c op o0 o1' _).mono ?_); rintro e w5 ⟨rfl, hb⟩; have hb5 : Below w3.heap.size w3 w5 := hb4.trans (hb.mono hb4.size)))
          all_goals
            go_wp2_with fail
            go_meet
            exact ⟨by rw [← hL1.out], hb5⟩
        case rest =>
          obtain ⟨rfl, hbc⟩ := hcut
          obtain ⟨wr, rfl⟩ : ∃ W, W = wc := ⟨_, rfl⟩
          have Q := Q.below hbc
          have hw := hw.trans (hbc.mono hw.size)
          generalize hL1e : line1 k ⟨op, a, b, s⟩ = L1 at *
          replace hL1e := Lib.hid hL1e
          clear hbc q_0 q_1 q_2 q_3 hsQ hL1 t0 t1 t2
          have em0 : showsS op = false → op ≠ 2 → s = ⟨#[]⟩ := fun h h2 => by
            have := hem.out h2
            rw [h] at this
            have h3 : s.data.toList = [] := by rw [ByteArray.toList_eq] at this; simpa using this
            have h4 : s.data = #[] := by apply Array.ext'; rw [h3]
            cases s; simp at h4; rw [h4]
          have em1 : showsS op = true → op ≠ 2 → s ≠ ⟨#[]⟩ := fun h h2 e => by
            have := hem.out h2
            rw [h, e] at this
            rw [ByteArray.toList_eq] at this
            exact absurd this (by decide)
          replace em0 := Lib.hid em0; replace em1 := Lib.hid em1
          rcases opKindS op with rfl | hk7 | rfl | rfl | hka | ⟨hrest, hno⟩
          · obtain rfl := em0.out (by decide) (by decide)
            have hline : t ++ L1 ++ ⟨#[32]⟩ ++ numText a ++ ⟨#[32]⟩ ++ numText b = t ++ insLine k ⟨20, a, b, ⟨#[]⟩⟩ := by (unfold insLine; rw [if_pos rfl, line2_yes (by decide), hL1e.out]; simp only [ByteArray.append_assoc]; rfl)
            replace hline := Lib.hid hline
            obtain ⟨q_0, q_1, q_2, q_3⟩ := Q.box4; have hsQ := World.block_lt_of_cell? _ _ q_0; dsimp only at hsQ
            go_upto_region 26 with (first | (go_at_call 27; (with_reducible refine (spec_NumText_c a ha64.out _).mono ?_); rintro e w1 ⟨rfl, hb⟩; have hw := hw.trans (hb.mono hw.size); have Q := Q.below hb; obtain ⟨q_0, q_1, q_2, q_3⟩ := Q.box4; have hsQ := World.block_lt_of_cell? _ _ q_0; dsimp only at hsQ; clear hb) | (go_at_call 27; (with_reducible refine (spec_NumText_c b hb64.out _).mono ?_); rintro e w1 ⟨rfl, hb⟩; have hw := hw.trans (hb.mono hw.size); have Q := Q.below hb; obtain ⟨q_0, q_1, q_2, q_3⟩ := Q.box4; have hsQ := World.block_lt_of_cell? _ _ q_0; dsimp only at hsQ; clear hb) | (go_at_call 29; (with_reducible refine (spec_Quote_c s (by omega) _).mono ?_); rintro e w1 ⟨rfl, hb⟩; have hw := hw.trans (hb.mono hw.size); have Q := Q.below hb; obtain ⟨q_0, q_1, q_2, q_3⟩ := Q.box4; have hsQ := World.block_lt_of_cell? _ _ q_0; dsimp only at hsQ; clear hb))
            rw [hline.out]
            have hl7 : (insLine k ⟨20, a, b, ⟨#[]⟩⟩).size ≤ 4194400 := l3
            generalize insLine k ⟨20, a, b, ⟨#[]⟩⟩ = L at *
            go_wp2_with fail
            go_roundw
            case rel => exact ⟨k + 1, t ++ L ++ ⟨#[10]⟩, by omega, by go_num, rfl, hw, by show t ++ L ++ bNl = _; rw [hst.out, ht.out]⟩
            case measure => simp [intOf]; omega
          · rcases hk7 with rfl | rfl
            · have hne := em1.out (by decide) (by decide)
              have hne2 : ¬ s.toList = [] := fun e => by have h := hem.out (by decide); rw [e] at h; exact absurd h (by decide)
              have hne3 : s.toList.isEmpty = false := hem.out (by decide)
              have hline : t ++ L1 ++ ⟨#[32]⟩ ++ s = t ++ insLine k ⟨7, a, b, s⟩ := by (unfold insLine; rw [if_neg (by dsimp only; decide), if_pos (by dsimp only; decide), line2_no (by decide), hL1e.out]; simp only [ByteArray.append_assoc]; rfl)
              replace hline := Lib.hid hline
              obtain ⟨q_0, q_1, q_2, q_3⟩ := Q.box4; have hsQ := World.block_lt_of_cell? _ _ q_0; dsimp only at hsQ
              go_upto_region 26 with (first | (go_at_call 27; (with_reducible refine (spec_NumText_c a ha64.out _).mono ?_); rintro e w1 ⟨rfl, hb⟩; have hw := hw.trans (hb.mono hw.size); have Q := Q.below hb; obtain ⟨q_0, q_1, q_2, q_3⟩ := Q.box4; have hsQ := World.block_lt_of_cell? _ _ q_0; dsimp only at hsQ; clear hb) | (go_at_call 27; (with_reducible refine (spec_NumText_c b hb64.out _).mono ?_); rintro e w1 ⟨rfl, hb⟩; have hw := hw.trans (hb.mono hw.size); have Q := Q.below hb; obtain ⟨q_0, q_1, q_2, q_3⟩ := Q.box4; have hsQ := World.block_lt_of_cell? _ _ q_0; dsimp only at hsQ; clear hb) | (go_at_call 29; (with_reducible refine (spec_Quote_c s (by omega) _).mono ?_); rintro e w1 ⟨rfl, hb⟩; have hw := hw.trans (hb.mono hw.size); have Q := Q.below hb; obtain ⟨q_0, q_1, q_2, q_3⟩ := Q.box4; have hsQ := World.block_lt_of_cell? _ _ q_0; dsimp only at hsQ; clear hb))
              rw [hline.out]
              have hl7 : (insLine k ⟨7, a, b, s⟩).size ≤ 4194400 := l3
              generalize insLine k ⟨7, a, b, s⟩ = L at *
              go_wp2_with fail
              go_roundw
              case rel => exact ⟨k + 1, t ++ L ++ ⟨#[10]⟩, by omega, by go_num, rfl, hw, by show t ++ L ++ bNl = _; rw [hst.out, ht.out]⟩
              case measure => simp [intOf]; omega
            · have hne := em1.out (by decide) (by decide)
              have hne2 : ¬ s.toList = [] := fun e => by have h := hem.out (by decide); rw [e] at h; exact absurd h (by decide)
              have hne3 : s.toList.isEmpty = false := hem.out (by decide)
              have hline : t ++ L1 ++ ⟨#[32]⟩ ++ s = t ++ insLine k ⟨16, a, b, s⟩ := by (unfold insLine; rw [if_neg (by dsimp only; decide), if_pos (by dsimp only; decide), line2_no (by decide), hL1e.out]; simp only [ByteArray.append_assoc]; rfl)
              replace hline := Lib.hid hline
              obtain ⟨q_0, q_1, q_2, q_3⟩ := Q.box4; have hsQ := World.block_lt_of_cell? _ _ q_0; dsimp only at hsQ
              go_upto_region 26 with (first | (go_at_call 27; (with_reducible refine (spec_NumText_c a ha64.out _).mono ?_); rintro e w1 ⟨rfl, hb⟩; have hw := hw.trans (hb.mono hw.size); have Q := Q.below hb; obtain ⟨q_0, q_1, q_2, q_3⟩ := Q.box4; have hsQ := World.block_lt_of_cell? _ _ q_0; dsimp only at hsQ; clear hb) | (go_at_call 27; (with_reducible refine (spec_NumText_c b hb64.out _).mono ?_); rintro e w1 ⟨rfl, hb⟩; have hw := hw.trans (hb.mono hw.size); have Q := Q.below hb; obtain ⟨q_0, q_1, q_2, q_3⟩ := Q.box4; have hsQ := World.block_lt_of_cell? _ _ q_0; dsimp only at hsQ; clear hb) | (go_at_call 29; (with_reducible refine (spec_Quote_c s (by omega) _).mono ?_); rintro e w1 ⟨rfl, hb⟩; have hw := hw.trans (hb.mono hw.size); have Q := Q.below hb; obtain ⟨q_0, q_1, q_2, q_3⟩ := Q.box4; have hsQ := World.block_lt_of_cell? _ _ q_0; dsimp only at hsQ; clear hb))
              rw [hline.out]
              have hl7 : (insLine k ⟨16, a, b, s⟩).size ≤ 4194400 := l3
              generalize insLine k ⟨16, a, b, s⟩ = L at *
              go_wp2_with fail
              go_roundw
              case rel => exact ⟨k + 1, t ++ L ++ ⟨#[10]⟩, by omega, by go_num, rfl, hw, by show t ++ L ++ bNl = _; rw [hst.out, ht.out]⟩
              case measure => simp [intOf]; omega
          · have hne := em1.out (by decide) (by decide)
            have hne2 : ¬ s.toList = [] := fun e => by have h := hem.out (by decide); rw [e] at h; exact absurd h (by decide)
            have hne3 : s.toList.isEmpty = false := hem.out (by decide)
            have hline : t ++ L1 ++ ⟨#[32]⟩ ++ numText a ++ ⟨#[32]⟩ ++ s = t ++ insLine k ⟨4, a, b, s⟩ := by (unfold insLine; rw [if_neg (by dsimp only; decide), if_pos (by dsimp only; decide), line2_yes (by decide), hL1e.out]; simp only [ByteArray.append_assoc]; rfl)
            replace hline := Lib.hid hline
            obtain ⟨q_0, q_1, q_2, q_3⟩ := Q.box4; have hsQ := World.block_lt_of_cell? _ _ q_0; dsimp only at hsQ
            go_upto_region 26 with (first | (go_at_call 27; (with_reducible refine (spec_NumText_c a ha64.out _).mono ?_); rintro e w1 ⟨rfl, hb⟩; have hw := hw.trans (hb.mono hw.size); have Q := Q.below hb; obtain ⟨q_0, q_1, q_2, q_3⟩ := Q.box4; have hsQ := World.block_lt_of_cell? _ _ q_0; dsimp only at hsQ; clear hb) | (go_at_call 27; (with_reducible refine (spec_NumText_c b hb64.out _).mono ?_); rintro e w1 ⟨rfl, hb⟩; have hw := hw.trans (hb.mono hw.size); have Q := Q.below hb; obtain ⟨q_0, q_1, q_2, q_3⟩ := Q.box4; have hsQ := World.block_lt_of_cell? _ _ q_0; dsimp only at hsQ; clear hb) | (go_at_call 29; (with_reducible refine (spec_Quote_c s (by omega) _).mono ?_); rintro e w1 ⟨rfl, hb⟩; have hw := hw.trans (hb.mono hw.size); have Q := Q.below hb; obtain ⟨q_0, q_1, q_2, q_3⟩ := Q.box4; have hsQ := World.block_lt_of_cell? _ _ q_0; dsimp only at hsQ; clear hb))
            rw [hline.out]
            have hl7 : (insLine k ⟨4, a, b, s⟩).size ≤ 4194400 := l3
            generalize insLine k ⟨4, a, b, s⟩ = L at *
            go_wp2_with fail
            go_roundw
            case rel => exact ⟨k + 1, t ++ L ++ ⟨#[10]⟩, by omega, by go_num, rfl, hw, by show t ++ L ++ bNl = _; rw [hst.out, ht.out]⟩
            case measure => simp [intOf]; omega
          · have q6 := q5
            have hline : t ++ L1 ++ ⟨#[32]⟩ ++ quoteS s = t ++ insLine k ⟨2, a, b, s⟩ := by (unfold insLine; rw [if_neg (by dsimp only; decide), if_neg (by dsimp only; decide), if_pos rfl, line2_no (by decide), hL1e.out]; simp only [ByteArray.append_assoc]; rfl)
            replace hline := Lib.hid hline
            obtain ⟨q_0, q_1, q_2, q_3⟩ := Q.box4; have hsQ := World.block_lt_of_cell? _ _ q_0; dsimp only at hsQ
            go_upto_region 26 with (first | (go_at_call 27; (with_reducible refine (spec_NumText_c a ha64.out _).mono ?_); rintro e w1 ⟨rfl, hb⟩; have hw := hw.trans (hb.mono hw.size); have Q := Q.below hb; obtain ⟨q_0, q_1, q_2, q_3⟩ := Q.box4; have hsQ := World.block_lt_of_cell? _ _ q_0; dsimp only at hsQ; clear hb) | (go_at_call 27; (with_reducible refine (spec_NumText_c b hb64.out _).mono ?_); rintro e w1 ⟨rfl, hb⟩; have hw := hw.trans (hb.mono hw.size); have Q := Q.below hb; obtain ⟨q_0, q_1, q_2, q_3⟩ := Q.box4; have hsQ := World.block_lt_of_cell? _ _ q_0; dsimp only at hsQ; clear hb) | (go_at_call 29; (with_reducible refine (spec_Quote_c s (by omega) _).mono ?_); rintro e w1 ⟨rfl, hb⟩; have hw := hw.trans (hb.mono hw.size); have Q := Q.below hb; obtain ⟨q_0, q_1, q_2, q_3⟩ := Q.box4; have hsQ := World.block_lt_of_cell? _ _ q_0; dsimp only at hsQ; clear hb))
            rw [hline.out]
            have hl7 : (insLine k ⟨2, a, b, s⟩).size ≤ 4194400 := l3
            generalize insLine k ⟨2, a, b, s⟩ = L at *
            go_wp2_with fail
            go_roundw
            case rel => exact ⟨k + 1, t ++ L ++ ⟨#[10]⟩, by omega, by go_num, rfl, hw, by show t ++ L ++ bNl = _; rw [hst.out, ht.out]⟩
            case measure => simp [intOf]; omega
          · rcases hka with rfl | rfl | rfl | rfl | rfl | rfl | rfl | rfl
            · obtain rfl := em0.out (by decide) (by decide)
              have hline : t ++ L1 ++ ⟨#[32]⟩ ++ numText a = t ++ insLine k ⟨1, a, b, ⟨#[]⟩⟩ := by (rw [insLine_rest (by decide), line2_yes (by decide), hL1e.out]; simp only [ByteArray.append_assoc]; rfl)
              replace hline := Lib.hid hline
              obtain ⟨q_0, q_1, q_2, q_3⟩ := Q.box4; have hsQ := World.block_lt_of_cell? _ _ q_0; dsimp only at hsQ
              go_upto_region 26 with (first | (go_at_call 27; (with_reducible refine (spec_NumText_c a ha64.out _).mono ?_); rintro e w1 ⟨rfl, hb⟩; have hw := hw.trans (hb.mono hw.size); have Q := Q.below hb; obtain ⟨q_0, q_1, q_2, q_3⟩ := Q.box4; have hsQ := World.block_lt_of_cell? _ _ q_0; dsimp only at hsQ; clear hb) | (go_at_call 27; (with_reducible refine (spec_NumText_c b hb64.out _).mono ?_); rintro e w1 ⟨rfl, hb⟩; have hw := hw.trans (hb.mono hw.size); have Q := Q.below hb; obtain ⟨q_0, q_1, q_2, q_3⟩ := Q.box4; have hsQ := World.block_lt_of_cell? _ _ q_0; dsimp only at hsQ; clear hb) | (go_at_call 29; (with_reducible refine (spec_Quote_c s (by omega) _).mono ?_); rintro e w1 ⟨rfl, hb⟩; have hw := hw.trans (hb.mono hw.size); have Q := Q.below hb; obtain ⟨q_0, q_1, q_2, q_3⟩ := Q.box4; have hsQ := World.block_lt_of_cell? _ _ q_0; dsimp only at hsQ; clear hb))
              rw [hline.out]
              have hl7 : (insLine k ⟨1, a, b, ⟨#[]⟩⟩).size ≤ 4194400 := l3
              generalize insLine k ⟨1, a, b, ⟨#[]⟩⟩ = L at *
              go_wp2_with fail
              go_roundw
              case rel => exact ⟨k + 1, t ++ L ++ ⟨#[10]⟩, by omega, by go_num, rfl, hw, by show t ++ L ++ bNl = _; rw [hst.out, ht.out]⟩
              case measure => simp [intOf]; omega
            · obtain rfl := em0.out (by decide) (by decide)
              have hline : t ++ L1 ++ ⟨#[32]⟩ ++ numText a = t ++ insLine k ⟨6, a, b, ⟨#[]⟩⟩ := by (rw [insLine_rest (by decide), line2_yes (by decide), hL1e.out]; simp only [ByteArray.append_assoc]; rfl)
              replace hline := Lib.hid hline
              obtain ⟨q_0, q_1, q_2, q_3⟩ := Q.box4; have hsQ := World.block_lt_of_cell? _ _ q_0; dsimp only at hsQ
              go_upto_region 26 with (first | (go_at_call 27; (with_reducible refine (spec_NumText_c a ha64.out _).mono ?_); rintro e w1 ⟨rfl, hb⟩; have hw := hw.trans (hb.mono hw.size); have Q := Q.below hb; obtain ⟨q_0, q_1, q_2, q_3⟩ := Q.box4; have hsQ := World.block_lt_of_cell? _ _ q_0; dsimp only at hsQ; clear hb) | (go_at_call 27; (with_reducible refine (spec_NumText_c b hb64.out _).mono ?_); rintro e w1 ⟨rfl, hb⟩; have hw := hw.trans (hb.mono hw.size); have Q := Q.below hb; obtain ⟨q_0, q_1, q_2, q_3⟩ := Q.box4; have hsQ := World.block_lt_of_cell? _ _ q_0; dsimp only at hsQ; clear hb) | (go_at_call 29; (with_reducible refine (spec_Quote_c s (by omega) _).mono ?_); rintro e w1 ⟨rfl, hb⟩; have hw := hw.trans (hb.mono hw.size); have Q := Q.below hb; obtain ⟨q_0, q_1, q_2, q_3⟩ := Q.box4; have hsQ := World.block_lt_of_cell? _ _ q_0; dsimp only at hsQ; clear hb))
              rw [hline.out]
              have hl7 : (insLine k ⟨6, a, b, ⟨#[]⟩⟩).size ≤ 4194400 := l3
              generalize insLine k ⟨6, a, b, ⟨#[]⟩⟩ = L at *
              go_wp2_with fail
              go_roundw
              case rel => exact ⟨k + 1, t ++ L ++ ⟨#[10]⟩, by omega, by go_num, rfl, hw, by show t ++ L ++ bNl = _; rw [hst.out, ht.out]⟩
              case measure => simp [intOf]; omega
            · obtain rfl := em0.out (by decide) (by decide)
              have hline : t ++ L1 ++ ⟨#[32]⟩ ++ numText a = t ++ insLine k ⟨15, a, b, ⟨#[]⟩⟩ := by (rw [insLine_rest (by decide), line2_yes (by decide), hL1e.out]; simp only [ByteArray.append_assoc]; rfl)
              replace hline := Lib.hid hline
              obtain ⟨q_0, q_1, q_2, q_3⟩ := Q.box4; have hsQ := World.block_lt_of_cell? _ _ q_0; dsimp only at hsQ
              go_upto_region 26 with (first | (go_at_call 27; (with_reducible refine (spec_NumText_c a ha64.out _).mono ?_); rintro e w1 ⟨rfl, hb⟩; have hw := hw.trans (hb.mono hw.size); have Q := Q.below hb; obtain ⟨q_0, q_1, q_2, q_3⟩ := Q.box4; have hsQ := World.block_lt_of_cell? _ _ q_0; dsimp only at hsQ; clear hb) | (go_at_call 27; (with_reducible refine (spec_NumText_c b hb64.out _).mono ?_); rintro e w1 ⟨rfl, hb⟩; have hw := hw.trans (hb.mono hw.size); have Q := Q.below hb; obtain ⟨q_0, q_1, q_2, q_3⟩ := Q.box4; have hsQ := World.block_lt_of_cell? _ _ q_0; dsimp only at hsQ; clear hb) | (go_at_call 29; (with_reducible refine (spec_Quote_c s (by omega) _).mono ?_); rintro e w1 ⟨rfl, hb⟩; have hw := hw.trans (hb.mono hw.size); have Q := Q.below hb; obtain ⟨q_0, q_1, q_2, q_3⟩ := Q.box4; have hsQ := World.block_lt_of_cell? _ _ q_0; dsimp only at hsQ; clear hb))
              rw [hline.out]
              have hl7 : (insLine k ⟨15, a, b, ⟨#[]⟩⟩).size ≤ 4194400 := l3
              generalize insLine k ⟨15, a, b, ⟨#[]⟩⟩ = L at *
              go_wp2_with fail
              go_roundw
              case rel => exact ⟨k + 1, t ++ L ++ ⟨#[10]⟩, by omega, by go_num, rfl, hw, by show t ++ L ++ bNl = _; rw [hst.out, ht.out]⟩
              case measure => simp [intOf]; omega
            · obtain rfl := em0.out (by decide) (by decide)
              have hline : t ++ L1 ++ ⟨#[32]⟩ ++ numText a = t ++ insLine k ⟨8, a, b, ⟨#[]⟩⟩ := by (rw [insLine_rest (by decide), line2_yes (by decide), hL1e.out]; simp only [ByteArray.append_assoc]; rfl)
              replace hline := Lib.hid hline
              obtain ⟨q_0, q_1, q_2, q_3⟩ := Q.box4; have hsQ := World.block_lt_of_cell? _ _ q_0; dsimp only at hsQ
              go_upto_region 26 with (first | (go_at_call 27; (with_reducible refine (spec_NumText_c a ha64.out _).mono ?_); rintro e w1 ⟨rfl, hb⟩; have hw := hw.trans (hb.mono hw.size); have Q := Q.below hb; obtain ⟨q_0, q_1, q_2, q_3⟩ := Q.box4; have hsQ := World.block_lt_of_cell? _ _ q_0; dsimp only at hsQ; clear hb) | (go_at_call 27; (with_reducible refine (spec_NumText_c b hb64.out _).mono ?_); rintro e w1 ⟨rfl, hb⟩; have hw := hw.trans (hb.mono hw.size); have Q := Q.below hb; obtain ⟨q_0, q_1, q_2, q_3⟩ := Q.box4; have hsQ := World.block_lt_of_cell? _ _ q_0; dsimp only at hsQ; clear hb) | (go_at_call 29; (with_reducible refine (spec_Quote_c s (by omega) _).mono ?_); rintro e w1 ⟨rfl, hb⟩; have hw := hw.trans (hb.mono hw.size); have Q := Q.below hb; obtain ⟨q_0, q_1, q_2, q_3⟩ := Q.box4; have hsQ := World.block_lt_of_cell? _ _ q_0; dsimp only at hsQ; clear hb))
              rw [hline.out]
              have hl7 : (insLine k ⟨8, a, b, ⟨#[]⟩⟩).size ≤ 4194400 := l3
              generalize insLine k ⟨8, a, b, ⟨#[]⟩⟩ = L at *
              go_wp2_with fail
              go_roundw
              case rel => exact ⟨k + 1, t ++ L ++ ⟨#[10]⟩, by omega, by go_num, rfl, hw, by show t ++ L ++ bNl = _; rw [hst.out, ht.out]⟩
              case measure => simp [intOf]; omega
            · obtain rfl := em0.out (by decide) (by decide)
              have hline : t ++ L1 ++ ⟨#[32]⟩ ++ numText a = t ++ insLine k ⟨9, a, b, ⟨#[]⟩⟩ := by (rw [insLine_rest (by decide), line2_yes (by decide), hL1e.out]; simp only [ByteArray.append_assoc]; rfl)
              replace hline := Lib.hid hline
              obtain ⟨q_0, q_1, q_2, q_3⟩ := Q.box4; have hsQ := World.block_lt_of_cell? _ _ q_0; dsimp only at hsQ
              go_upto_region 26 with (first | (go_at_call 27; (with_reducible refine (spec_NumText_c a ha64.out _).mono ?_); rintro e w1 ⟨rfl, hb⟩; have hw := hw.trans (hb.mono hw.size); have Q := Q.below hb; obtain ⟨q_0, q_1, q_2, q_3⟩ := Q.box4; have hsQ := World.block_lt_of_cell? _ _ q_0; dsimp only at hsQ; clear hb) | (go_at_call 27; (with_reducible refine (spec_NumText_c b hb64.out _).mono ?_); rintro e w1 ⟨rfl, hb⟩; have hw := hw.trans (hb.mono hw.size); have Q := Q.below hb; obtain ⟨q_0, q_1, q_2, q_3⟩ := Q.box4; have hsQ := World.block_lt_of_cell? _ _ q_0; dsimp only at hsQ; clear hb) | (go_at_call 29; (with_reducible refine (spec_Quote_c s (by omega) _).mono ?_); rintro e w1 ⟨rfl, hb⟩; have hw := hw.trans (hb.mono hw.size); have Q := Q.below hb; obtain ⟨q_0, q_1, q_2, q_3⟩ := Q.box4; have hsQ := World.block_lt_of_cell? _ _ q_0; dsimp only at hsQ; clear hb))
              rw [hline.out]
              have hl7 : (insLine k ⟨9, a, b, ⟨#[]⟩⟩).size ≤ 4194400 := l3
              generalize insLine k ⟨9, a, b, ⟨#[]⟩⟩ = L at *
              go_wp2_with fail
              go_roundw
              case rel => exact ⟨k + 1, t ++ L ++ ⟨#[10]⟩, by omega, by go_num, rfl, hw, by show t ++ L ++ bNl = _; rw [hst.out, ht.out]⟩
              case measure => simp [intOf]; omega
            · obtain rfl := em0.out (by decide) (by decide)
              have hline : t ++ L1 ++ ⟨#[32]⟩ ++ numText a = t ++ insLine k ⟨12, a, b, ⟨#[]⟩⟩ := by (rw [insLine_rest (by decide), line2_yes (by decide), hL1e.out]; simp only [ByteArray.append_assoc]; rfl)
              replace hline := Lib.hid hline
              obtain ⟨q_0, q_1, q_2, q_3⟩ := Q.box4; have hsQ := World.block_lt_of_cell? _ _ q_0; dsimp only at hsQ
              go_upto_region 26 with (first | (go_at_call 27; (with_reducible refine (spec_NumText_c a ha64.out _).mono ?_); rintro e w1 ⟨rfl, hb⟩; have hw := hw.trans (hb.mono hw.size); have Q := Q.below hb; obtain ⟨q_0, q_1, q_2, q_3⟩ := Q.box4; have hsQ := World.block_lt_of_cell? _ _ q_0; dsimp only at hsQ; clear hb) | (go_at_call 27; (with_reducible refine (spec_NumText_c b hb64.out _).mono ?_); rintro e w1 ⟨rfl, hb⟩; have hw := hw.trans (hb.mono hw.size); have Q := Q.below hb; obtain ⟨q_0, q_1, q_2, q_3⟩ := Q.box4; have hsQ := World.block_lt_of_cell? _ _ q_0; dsimp only at hsQ; clear hb) | (go_at_call 29; (with_reducible refine (spec_Quote_c s (by omega) _).mono ?_); rintro e w1 ⟨rfl, hb⟩; have hw := hw.trans (hb.mono hw.size); have Q := Q.below hb; obtain ⟨q_0, q_1, q_2, q_3⟩ := Q.box4; have hsQ := World.block_lt_of_cell? _ _ q_0; dsimp only at hsQ; clear hb))
              rw [hline.out]
              have hl7 : (insLine k ⟨12, a, b, ⟨#[]⟩⟩).size ≤ 4194400 := l3
              generalize insLine k ⟨12, a, b, ⟨#[]⟩⟩ = L at *
              go_wp2_with fail
              go_roundw
              case rel => exact ⟨k + 1, t ++ L ++ ⟨#[10]⟩, by omega, by go_num, rfl, hw, by show t ++ L ++ bNl = _; rw [hst.out, ht.out]⟩
              case measure => simp [intOf]; omega
            · obtain rfl := em0.out (by decide) (by decide)
              have hline : t ++ L1 ++ ⟨#[32]⟩ ++ numText a = t ++ insLine k ⟨13, a, b, ⟨#[]⟩⟩ := by (rw [insLine_rest (by decide), line2_yes (by decide), hL1e.out]; simp only [ByteArray.append_assoc]; rfl)
              replace hline := Lib.hid hline
              obtain ⟨q_0, q_1, q_2, q_3⟩ := Q.box4; have hsQ := World.block_lt_of_cell? _ _ q_0; dsimp only at hsQ
              go_upto_region 26 with (first | (go_at_call 27; (with_reducible refine (spec_NumText_c a ha64.out _).mono ?_); rintro e w1 ⟨rfl, hb⟩; have hw := hw.trans (hb.mono hw.size); have Q := Q.below hb; obtain ⟨q_0, q_1, q_2, q_3⟩ := Q.box4; have hsQ := World.block_lt_of_cell? _ _ q_0; dsimp only at hsQ; clear hb) | (go_at_call 27; (with_reducible refine (spec_NumText_c b hb64.out _).mono ?_); rintro e w1 ⟨rfl, hb⟩; have hw := hw.trans (hb.mono hw.size); have Q := Q.below hb; obtain ⟨q_0, q_1, q_2, q_3⟩ := Q.box4; have hsQ := World.block_lt_of_cell? _ _ q_0; dsimp only at hsQ; clear hb) | (go_at_call 29; (with_reducible refine (spec_Quote_c s (by omega) _).mono ?_); rintro e w1 ⟨rfl, hb⟩; have hw := hw.trans (hb.mono hw.size); have Q := Q.below hb; obtain ⟨q_0, q_1, q_2, q_3⟩ := Q.box4; have hsQ := World.block_lt_of_cell? _ _ q_0; dsimp only at hsQ; clear hb))
              rw [hline.out]
              have hl7 : (insLine k ⟨13, a, b, ⟨#[]⟩⟩).size ≤ 4194400 := l3
              generalize insLine k ⟨13, a, b, ⟨#[]⟩⟩ = L at *
              go_wp2_with fail
              go_roundw
              case rel => exact ⟨k + 1, t ++ L ++ ⟨#[10]⟩, by omega, by go_num, rfl, hw, by show t ++ L ++ bNl = _; rw [hst.out, ht.out]⟩
              case measure => simp [intOf]; omega
            · obtain rfl := em0.out (by decide) (by decide)
              have hline : t ++ L1 ++ ⟨#[32]⟩ ++ numText a = t ++ insLine k ⟨18, a, b, ⟨#[]⟩⟩ := by (rw [insLine_rest (by decide), line2_yes (by decide), hL1e.out]; simp only [ByteArray.append_assoc]; rfl)
              replace hline := Lib.hid hline
              obtain ⟨q_0, q_1, q_2, q_3⟩ := Q.box4; have hsQ := World.block_lt_of_cell? _ _ q_0; dsimp only at hsQ
              go_upto_region 26 with (first | (go_at_call 27; (with_reducible refine (spec_NumText_c a ha64.out _).mono ?_); rintro e w1 ⟨rfl, hb⟩; have hw := hw.trans (hb.mono hw.size); have Q := Q.below hb; obtain ⟨q_0, q_1, q_2, q_3⟩ := Q.box4; have hsQ := World.block_lt_of_cell? _ _ q_0; dsimp only at hsQ; clear hb) | (go_at_call 27; (with_reducible refine (spec_NumText_c b hb64.out _).mono ?_); rintro e w1 ⟨rfl, hb⟩; have hw := hw.trans (hb.mono hw.size); have Q := Q.below hb; obtain ⟨q_0, q_1, q_2, q_3⟩ := Q.box4; have hsQ := World.block_lt_of_cell? _ _ q_0; dsimp only at hsQ; clear hb) | (go_at_call 29; (with_reducible refine (spec_Quote_c s (by omega) _).mono ?_); rintro e w1 ⟨rfl, hb⟩; have hw := hw.trans (hb.mono hw.size); have Q := Q.below hb; obtain ⟨q_0, q_1, q_2, q_3⟩ := Q.box4; have hsQ := World.block_lt_of_cell? _ _ q_0; dsimp only at hsQ; clear hb))
              rw [hline.out]
              have hl7 : (insLine k ⟨18, a, b, ⟨#[]⟩⟩).size ≤ 4194400 := l3
              generalize insLine k ⟨18, a, b, ⟨#[]⟩⟩ = L at *
              go_wp2_with fail
              go_roundw
              case rel => exact ⟨k + 1, t ++ L ++ ⟨#[10]⟩, by omega, by go_num, rfl, hw, by show t ++ L ++ bNl = _; rw [hst.out, ht.out]⟩
              case measure => simp [intOf]; omega
          · have hir := insLine_rest (k := k) (a := a) (b := b) (s := s) hrest
            have hsn := shows_no hrest.1 hrest.2.2.1 hno
            obtain ⟨d20, d7, d4, d16, d2⟩ := hrest
            obtain ⟨d1, d6, d15, d8, d9, d12, d13, d18⟩ := hno
            obtain rfl := em0.out (by unfold showsS; rw [d4, d7, d16]; rfl) (by simpa using d2)
            have hline : t ++ L1 = t ++ insLine k ⟨op, a, b, ⟨#[]⟩⟩ := by (rw [hir, line2_no hsn, hL1e.out])
            replace hline := Lib.hid hline
            clear hir hsn
            obtain ⟨q_0, q_1, q_2, q_3⟩ := Q.box4; have hsQ := World.block_lt_of_cell? _ _ q_0; dsimp only at hsQ
            go_upto_region 26 with (first | (go_at_call 27; (with_reducible refine (spec_NumText_c a ha64.out _).mono ?_); rintro e w1 ⟨rfl, hb⟩; have hw := hw.trans (hb.mono hw.size); have Q := Q.below hb; obtain ⟨q_0, q_1, q_2, q_3⟩ := Q.box4; have hsQ := World.block_lt_of_cell? _ _ q_0; dsimp only at hsQ; clear hb) | (go_at_call 27; (with_reducible refine (spec_NumText_c b hb64.out _).mono ?_); rintro e w1 ⟨rfl, hb⟩; have hw := hw.trans (hb.mono hw.size); have Q := Q.below hb; obtain ⟨q_0, q_1, q_2, q_3⟩ := Q.box4; have hsQ := World.block_lt_of_cell? _ _ q_0; dsimp only at hsQ; clear hb) | (go_at_call 29; (with_reducible refine (spec_Quote_c s (by omega) _).mono ?_); rintro e w1 ⟨rfl, hb⟩; have hw := hw.trans (hb.mono hw.size); have Q := Q.below hb; obtain ⟨q_0, q_1, q_2, q_3⟩ := Q.box4; have hsQ := World.block_lt_of_cell? _ _ q_0; dsimp only at hsQ; clear hb))
            rw [hline.out]
            have hl7 : (insLine k ⟨op, a, b, ⟨#[]⟩⟩).size ≤ 4194400 := l3
            generalize insLine k ⟨op, a, b, ⟨#[]⟩⟩ = L at *
            go_wp2_with fail
            go_roundw
            case rel => exact ⟨k + 1, t ++ L ++ ⟨#[10]⟩, by omega, by go_num, rfl, hw, by show t ++ L ++ bNl = _; rw [hst.out, ht.out]⟩
            case measure => simp [intOf]; omega
      · obtain rfl : k = n := by omega
        have hR' : t = R := by rw [ht.out]; exact hR.out
        replace hR' := Lib.hid hR'
        go_wp2_with fail
        go_returns
        exact ⟨by rw [hR'.out]; rfl, hw⟩

end Go.Proofs.Ytklfepnokidnaaa
