/- Parts of the proof, merged: CodeText2. -/
import Derived.Test.YtklfepnokidnaaaSc20
/- The text of a code: the program's. -/
namespace Go.Proofs.Ytklfepnokidnaaa
open Go.RowKit
set_option linter.unusedVariables false
set_option linter.unusedSimpArgs false
attribute [local go_sem] Ext.cell

theorem aOps_sl (w : World) : Sl IntR 1 0 (w.alloc (.cells #[.int .i64 1, .int .i64 4, .int .i64 6, .int .i64 15, .int .i64 20] 3)) (.slice (some ⟨w.heap.size, 0, none⟩) 5 5) aOps :=
  (OwnF.sl flatInt (lo := 0) ⟨own_new w #[.int .i64 1, .int .i64 4, .int .i64 6, .int .i64 15, .int .i64 20] 3 1 5 rfl (by decide) 0 (Nat.zero_le _), fun x hx => by
    have : ∀ x ∈ aOps, -9223372036854775808 ≤ x ∧ x ≤ 9223372036854775807 := by decide
    exact this x hx⟩)
theorem opKind (op : Int) : op = 20 ∨ op = 7 ∨ op = 4 ∨ op = 16 ∨ op = 2 ∨ ((op == 20) = false ∧ (op == 7) = false ∧ (op == 4) = false ∧ (op == 16) = false ∧ (op == 2) = false) := by
  by_cases h1 : op = 20
  · exact .inl h1
  by_cases h2 : op = 7
  · exact .inr (.inl h2)
  by_cases h3 : op = 4
  · exact .inr (.inr (.inl h3))
  by_cases h4 : op = 16
  · exact .inr (.inr (.inr (.inl h4)))
  by_cases h5 : op = 2
  · exact .inr (.inr (.inr (.inr (.inl h5))))
  · exact .inr (.inr (.inr (.inr (.inr (by simp [h1, h2, h3, h4, h5])))))
set_option maxRecDepth 100000 in
set_option maxHeartbeats 16000000 in
theorem CodeText_w (c : GCode) (ok : Bool) (hsz : ∀ x ∈ c.ins, x.s.size ≤ 1048576) (hok : ok = true → c.ins.length ≤ 3000 ∧ ∀ x ∈ c.ins, 1 ≤ x.op ∧ x.op ≤ 25) (r : List Value) (lo : Nat) (w : World) (hr : GCode.R lo w r c)
    (cK : ∀ W, Below w.heap.size w W → Calls Try.prog 16 #[.agg r.toArray] W fun e w' => e = .returned (.bool ok) ∧ Below W.heap.size W w') :
    Calls Try.prog 17 #[.agg r.toArray] w fun e w' => e = .returned (.string (if ok = true then codeLines c.ins c.ins.length else ByteArray.empty)) ∧ Below w.heap.size w w' := by
  obtain ⟨u0, u1, rfl, _, h0, h1⟩ := hr
  obtain ⟨ia, ic, rfl, il, im, h0⟩ := h0
  obtain ⟨pa, pc, rfl⟩ := h1.form
  clear h1
  cases ok
  · rw [if_neg (by decide)]
    clear h0 il im hok
    replace cK := Lib.hid cK
    generalize c.ins.length = n at *
    generalize c.pats.length = m at *
    go_enter Try.func17, Try.ntmps17
    go_upto_region 1 with fail
    have C : RowAt (w.alloc (.cells #[.slice ia n ic, .slice pa m pc] 31)) (w.heap.size) 0 [.slice ia n ic, .slice pa m pc] := RowAt.box w #[.slice ia n ic, .slice pa m pc] 31
    have hw : Below w.heap.size w (w.alloc (.cells #[.slice ia n ic, .slice pa m pc] 31)) := by go_grown
    generalize (w.alloc (.cells #[.slice ia n ic, .slice pa m pc] 31)) = w0 at *
    obtain ⟨c_0, c_1⟩ := C.box2; have hsC := World.block_lt_of_cell? _ _ c_0; dsimp only at hsC
    go_wp2_with (go_at_call 16; ((with_reducible refine (cK.out _ hw).mono ?_); rintro e w1 ⟨rfl, hb⟩; have hw := hw.trans (hb.mono hw.size); have C := C.below hb; obtain ⟨c_0, c_1⟩ := C.box2; have hsC := World.block_lt_of_cell? _ _ c_0; dsimp only at hsC; clear hb))
    go_returns
    exact ⟨rfl, hw⟩
  · rw [if_pos rfl]
    obtain ⟨n2, hops⟩ := hok rfl
    obtain ⟨is, qs⟩ := c
    dsimp only at *
    obtain ⟨n, hn⟩ : ∃ n, n = is.length := ⟨_, rfl⟩
    obtain ⟨m, hm⟩ : ∃ m, m = qs.length := ⟨_, rfl⟩
    have hlen := codeLines_len is hsz
    have hsuc := fun k x => @codeLines_succ is k x
    obtain ⟨R, hR⟩ : ∃ R, codeLines is is.length = R := ⟨_, rfl⟩
    rw [hR]
    have hzero : codeLines is 0 = ByteArray.empty := rfl
    rw [← hn] at il n2 hlen hR
    rw [← hn, ← hm] at cK ⊢
    generalize codeLines is = T at *
    clear hok
    replace hn := Lib.hid hn; replace hm := Lib.hid hm; replace h0 := Lib.hid h0; replace cK := Lib.hid cK; replace hops := Lib.hid hops; replace hsz := Lib.hid hsz; replace hlen := Lib.hid hlen; replace hsuc := Lib.hid hsuc; replace hR := Lib.hid hR; replace hzero := Lib.hid hzero
    obtain ⟨i0, hi0, hz0, hz1, hz2⟩ := info_parts info_u8
    have I := Lib.hid hi0; have I0 := Lib.hid hz0; have I1 := Lib.hid hz1; have I2 := Lib.hid hz2
    clear hi0 hz0 hz1 hz2
    go_enter Try.func17, Try.ntmps17
    go_upto_region 1 with fail
    have C : RowAt (w.alloc (.cells #[.slice ia n ic, .slice pa m pc] 31)) (w.heap.size) 0 [.slice ia n ic, .slice pa m pc] := RowAt.box w #[.slice ia n ic, .slice pa m pc] 31
    have hw : Below w.heap.size w (w.alloc (.cells #[.slice ia n ic, .slice pa m pc] 31)) := by go_grown
    generalize (w.alloc (.cells #[.slice ia n ic, .slice pa m pc] 31)) = w0 at *
    obtain ⟨c_0, c_1⟩ := C.box2; have hsC := World.block_lt_of_cell? _ _ c_0; dsimp only at hsC
    go_upto_region 3 with (go_at_call 16; ((with_reducible refine (cK.out _ hw).mono ?_); rintro e w1 ⟨rfl, hb⟩; have hw := hw.trans (hb.mono hw.size); have C := C.below hb; obtain ⟨c_0, c_1⟩ := C.box2; have hsC := World.block_lt_of_cell? _ _ c_0; dsimp only at hsC; clear hb))
    go_upto_region 4 with fail
    obtain ⟨w2, hW2⟩ : ∃ W, W = w1.alloc (.cells #[] 5) := ⟨_, rfl⟩
    rw [← hW2]
    have hb2 : Below w1.heap.size w1 w2 := by rw [hW2]; go_grown
    have C := C.below hb2
    have hz1 := hw.size
    obtain ⟨B, hB⟩ : ∃ B, B = w1.heap.size := ⟨_, rfl⟩
    have O : w2.ownsRow B 5 1 (.slice (some ⟨B, 0, none⟩) 0 0) 0 (Lib.strCells (T 0)) := by
      rw [hzero.out, hB]
      exact own_empty_at (by rw [hW2]; exact heap_alloc_new' _ _ _ rfl) (Nat.le_refl _)
    have hw := hw.trans (hb2.mono hw.size)
    have hBw : w.heap.size < B := by omega
    have hBz : B ≤ w2.heap.size := by rw [hB, hW2]; simp
    rw [← hB]
    clear hW2 hb2 c_0 c_1 hsC cK hz1
    replace O := Lib.hid O; replace hB := Lib.hid hB
    obtain ⟨c_0, c_1⟩ := C.box2; have hsC := World.block_lt_of_cell? _ _ c_0; dsimp only at hsC
    go_wp2_with fail
    go_loopw [3, 14] (fun v i wr => ∃ (k : Nat) (va : Option Addr) (nv vc : Nat), k ≤ n ∧ i = .int .i64 k ∧ v = .slice va nv vc ∧ (∃ g, va = some ⟨g, 0, none⟩) ∧ Below w.heap.size w wr ∧ B ≤ wr.heap.size ∧ Hid (nv = (T k).size) ∧ Hid (wr.ownsRow B 5 1 (.slice va nv vc) nv (Lib.strCells (T k)))) (fun _ i _ => n - (intOf i).toNat)
    case atStart => exact ⟨0, _, 0, 0, by omega, rfl, rfl, ⟨B, rfl⟩, hw, hBz, by rw [hzero.out]; rfl, O⟩
    case round =>
      clear hw C O c_0 c_1 hsC
      obtain ⟨k, va, nv, vc, hk, rfl, rfl, hva, hw, hBr, hnv, O⟩ := hrel
      replace hva := Lib.hid hva
      by_cases hlt : k < n
      · have hnv2 : nv ≤ k * 4194401 := by rw [hnv.out]; exact hlen.out k hk
        obtain ⟨b1, o1, x, s1', _, hab, P1, ⟨rfl, hxw⟩, r1⟩ := (h0.out.below GIns.good hw).get hn hlt
        obtain ⟨e_0, e_1, e_2, e_3⟩ := r1.cells4
        have hxm := List.mem_of_getElem? P1.out
        have hst := hsuc.out k x P1.out
        obtain ⟨o0, o1'⟩ := hops.out x hxm
        have hs0 := hsz.out x hxm
        obtain ⟨l1, l2, l3⟩ := line_len (k := k) hs0
        have hk3 : (k : Int) ≤ 1048576 := by omega
        obtain ⟨op, a, b, s⟩ := x
        dsimp only at *
        subst hab
        have hL1 : numS k ++ ⟨#[32]⟩ ++ opN op = line1 k ⟨op, a, b, s⟩ := by unfold line1; rw [numText_nat (by omega)]; rfl
        have q1 := numS_len k (by omega)
        have q2 := opN_len op
        have q3 := numText_len a
        have q4 := numText_len b
        have q5 := quoteS_len s
        have t1 : ¬ (9223372036854775807 < (numS k).size + 1) := by omega
        have t2 : ¬ (9223372036854775807 < (numS k).size + 1 + (opN op).size) := by omega
        have ha64 : I64 a := hxw.2.1
        have hb64 : I64 b := hxw.2.2.1
        clear r1 P1 hxm
        go_upto_region 7 with fail
        obtain ⟨w3, hW3⟩ : ∃ W, W = wr.alloc (.cells #[.int .i64 op, .int .i64 a, .int .i64 b, .string s] 56) := ⟨_, rfl⟩
        rw [← hW3]
        have hb3 : Below wr.heap.size wr w3 := by rw [hW3]; go_grown
        have Q : RowAt w3 wr.heap.size 0 [.int .i64 op, .int .i64 a, .int .i64 b, .string s] := by rw [hW3]; exact RowAt.box wr #[_, _, _, _] _
        obtain ⟨bI, hbI⟩ : ∃ x, x = wr.heap.size := ⟨_, rfl⟩
        have O := Lib.hid (own_below O.out hb3)
        have hw := hw.trans (hb3.mono hw.size)
        have hz3 := hb3.size
        rw [← hbI] at Q hz3 ⊢
        have hBI : B ≤ bI := by rw [hbI]; exact hBr
        clear hW3 hb3 e_0 e_1 e_2 e_3
        replace hbI := Lib.hid hbI; replace hL1 := Lib.hid hL1; replace ha64 := Lib.hid ha64; replace hb64 := Lib.hid hb64; replace hst := Lib.hid hst
        obtain ⟨q_0, q_1, q_2, q_3⟩ := Q.box4; have hsQ := World.block_lt_of_cell? _ _ q_0; dsimp only at hsQ
        go_cut [6] (fun v wx => v = .string (line1 k ⟨op, a, b, s⟩) ∧ Below w3.heap.size w3 wx)
        case first =>
          go_region_law (first
            | (go_simp; go_at_call 40; (with_reducible refine (digits_c k (by omega) _).mono ?_); rintro e w4 ⟨rfl, hb⟩; have hb4 : Below w3.heap.size w3 w4 := Below.trans (by go_grown) (hb.mono (by go_grown)); have Q4 := Q.below hb4; obtain ⟨q4_0, q4_1, q4_2, q4_3⟩ := Q4.box4; have hsQ4 := World.block_lt_of_cell? _ _ q4_0; dsimp only at hsQ4)
            | (go_simp; go_at_call 41; (with_reducible refine (opName_c op o0 o1' _).mono ?_); rintro e w5 ⟨rfl, hb⟩; have hb5 : Below w3.heap.size w3 w5 := hb4.trans (hb.mono hb4.size)))
          all_goals
            go_wp2_with fail
            go_meet
            exact ⟨by rw [← hL1.out], hb5⟩
        case rest =>
          obtain ⟨rfl, hbc⟩ := hcut
          obtain ⟨wr, rfl⟩ : ∃ W, W = wc := ⟨_, rfl⟩
          have O := Lib.hid (own_below O.out hbc)
          have Q := Q.below hbc
          have hw := hw.trans (hbc.mono hw.size)
          have hzc := hbc.size
          have cl := fun W => leads_c op W
          have cA := fun u W hu => containsI_c aOps op 0 u W hu
          have hsA : showsA op = (leadsP op || aOps.any fun y => op == y) := rfl
          generalize hL1e : line1 k ⟨op, a, b, s⟩ = L1 at *
          replace hL1e := Lib.hid hL1e
          clear hbc q_0 q_1 q_2 q_3 hsQ hL1
          obtain ⟨q_0, q_1, q_2, q_3⟩ := Q.box4; have hsQ := World.block_lt_of_cell? _ _ q_0; dsimp only at hsQ
          have hBr : B ≤ wr.heap.size := by omega
          rcases opKind op with rfl | rfl | rfl | rfl | rfl | hrest
          · have hl0 : leadsP 20 = false := by decide
            have ha0 : (aOps.any fun y => (20 : Int) == y) = true := by decide
            rw [hl0] at cl
            rw [ha0] at cA
            have hline : L1 ++ ⟨#[32]⟩ ++ numText a ++ ⟨#[32]⟩ ++ numText b = insLine k ⟨20, a, b, s⟩ := by (unfold insLine; rw [if_pos rfl, line2_yes (by decide), hL1e.out]; rfl)
            replace hline := Lib.hid hline; replace cl := Lib.hid cl; replace cA := Lib.hid cA; replace hsA := Lib.hid hsA
            go_upto_region 19 with (first | (go_at_call 42; (with_reducible refine (cl.out _).mono ?_); rintro e w1 ⟨rfl, rfl⟩) | (go_at_call 43; (with_reducible refine (cA.out _ _ (aOps_sl _)).mono ?_); rintro e w1 ⟨rfl, hb⟩; have hb := Below.trans (show Below wr.heap.size wr _ by go_grown) (hb.mono (by go_grown)); have O := Lib.hid (own_below O.out hb); have hBr := Nat.le_trans hBr hb.size; have hw := hw.trans (hb.mono hw.size); have Q := Q.below hb; obtain ⟨q_0, q_1, q_2, q_3⟩ := Q.box4; have hsQ := World.block_lt_of_cell? _ _ q_0; dsimp only at hsQ; clear hb) | (go_at_call 44; (with_reducible refine (impl_NumText_c a ha64.out _).mono ?_); rintro e w1 ⟨rfl, hb⟩; have O := Lib.hid (own_below O.out hb); have hBr := Nat.le_trans hBr hb.size; have hw := hw.trans (hb.mono hw.size); have Q := Q.below hb; obtain ⟨q_0, q_1, q_2, q_3⟩ := Q.box4; have hsQ := World.block_lt_of_cell? _ _ q_0; dsimp only at hsQ; clear hb) | (go_at_call 44; (with_reducible refine (impl_NumText_c b hb64.out _).mono ?_); rintro e w1 ⟨rfl, hb⟩; have O := Lib.hid (own_below O.out hb); have hBr := Nat.le_trans hBr hb.size; have hw := hw.trans (hb.mono hw.size); have Q := Q.below hb; obtain ⟨q_0, q_1, q_2, q_3⟩ := Q.box4; have hsQ := World.block_lt_of_cell? _ _ q_0; dsimp only at hsQ; clear hb) | (go_at_call 45; (with_reducible refine (impl_Quote_c s (by omega) _).mono ?_); rintro e w1 ⟨rfl, hb⟩; have O := Lib.hid (own_below O.out hb); have hBr := Nat.le_trans hBr hb.size; have hw := hw.trans (hb.mono hw.size); have Q := Q.below hb; obtain ⟨q_0, q_1, q_2, q_3⟩ := Q.box4; have hsQ := World.block_lt_of_cell? _ _ q_0; dsimp only at hsQ; clear hb))
            rw [hline.out]
            generalize insLine k ⟨20, a, b, s⟩ = L at *
            go_upto_region 20 with (first
              | (at_builtin; refine Lib.wpList_append_own_string _ rfl _ _ _ _ rfl B 5 i0 Try.underlying67 Try.underlying9 I.out I0.out I1.out I2.out (.slice va nv vc) nv (Lib.strCells (T k)) rfl O.out L rfl (by unfold maxLen; omega) (by omega) (by omega) ?_; intro v' w5 hown5 hgrow5 _; obtain ⟨a5, c5, rfl⟩ := own_form hown5; have hb5 : Below w.heap.size w w5 := below_grown hw hw.size (own_lo O.out (Nat.le_of_lt hBw)) hgrow5; have hz5 : B ≤ w5.heap.size := Nat.le_trans hBr hgrow5.size)
              | (at_builtin; refine wpList_append_lies _ rfl _ _ _ rfl B 5 i0 _ 1 1 Try.underlying67 I.out I0.out I1.out I2.out rfl (by omega) (.slice a5 (nv + L.size) c5) (nv + L.size) (Lib.strCells (T k) ++ Lib.strCells L) rfl (own_below hown5 (by go_grown)) ⟨w5.heap.size, 0, none⟩ 1 1 [.int .u8 10] rfl rfl (World.news_of_block (cs := #[.int .u8 10]) (t := 5) (fr := (0, 0)) (heap_alloc_new' _ _ _ (by simp))) (by intro u hu; simp at hu; subst hu; rfl) (by omega) (by unfold maxLen; omega) (by omega) (by simp; omega) _ rfl ?_; intro g7 cap7 w7 hown7 hgrow7 hat7 hlt7))
            have hw7 := below_grown2 (wr := w5) (w := w) (base := w.heap.size) hgrow7 (by go_grown) hb5 hb5.size (own_lo hown5 (Nat.le_of_lt hBw))
            have hz7 : B ≤ w7.heap.size := by have := hgrow7.size; simp at this; omega
            have O7 : w7.ownsRow B 5 1 (.slice (some ⟨g7, 0, none⟩) (nv + L.size + 1) cap7) (nv + L.size + 1) (Lib.strCells (T (k + 1))) := by
              have e : Lib.strCells (T (k + 1)) = Lib.strCells (T k) ++ Lib.strCells L ++ [.int .u8 10] := by rw [hst.out, ← cells_app, ← cells_app]; rfl
              rw [e]; exact hown7
            have hn7 : nv + L.size + 1 = (T (k + 1)).size := by rw [hst.out, ByteArray.size_append, ByteArray.size_append, ← hnv.out]; rfl
            replace O7 := Lib.hid O7; replace hn7 := Lib.hid hn7
            clear hown5 hgrow5 hown7 hgrow7 hat7 hlt7
            go_wp2_with fail
            go_roundw
            case rel => exact ⟨k + 1, _, _, _, by omega, by go_num, rfl, ⟨g7, rfl⟩, hw7, hz7, hn7, O7⟩
            case measure => simp [intOf]; omega
          · have hl0 : leadsP 7 = false := by decide
            have ha0 : (aOps.any fun y => (7 : Int) == y) = false := by decide
            rw [hl0] at cl
            rw [ha0] at cA
            have hline : L1 ++ ⟨#[32]⟩ ++ s = insLine k ⟨7, a, b, s⟩ := by (unfold insLine; rw [if_neg (by dsimp only; decide), if_pos (by dsimp only; decide), line2_no (by decide), hL1e.out]; rfl)
            replace hline := Lib.hid hline; replace cl := Lib.hid cl; replace cA := Lib.hid cA; replace hsA := Lib.hid hsA
            go_upto_region 19 with (first | (go_at_call 42; (with_reducible refine (cl.out _).mono ?_); rintro e w1 ⟨rfl, rfl⟩) | (go_at_call 43; (with_reducible refine (cA.out _ _ (aOps_sl _)).mono ?_); rintro e w1 ⟨rfl, hb⟩; have hb := Below.trans (show Below wr.heap.size wr _ by go_grown) (hb.mono (by go_grown)); have O := Lib.hid (own_below O.out hb); have hBr := Nat.le_trans hBr hb.size; have hw := hw.trans (hb.mono hw.size); have Q := Q.below hb; obtain ⟨q_0, q_1, q_2, q_3⟩ := Q.box4; have hsQ := World.block_lt_of_cell? _ _ q_0; dsimp only at hsQ; clear hb) | (go_at_call 44; (with_reducible refine (impl_NumText_c a ha64.out _).mono ?_); rintro e w1 ⟨rfl, hb⟩; have O := Lib.hid (own_below O.out hb); have hBr := Nat.le_trans hBr hb.size; have hw := hw.trans (hb.mono hw.size); have Q := Q.below hb; obtain ⟨q_0, q_1, q_2, q_3⟩ := Q.box4; have hsQ := World.block_lt_of_cell? _ _ q_0; dsimp only at hsQ; clear hb) | (go_at_call 44; (with_reducible refine (impl_NumText_c b hb64.out _).mono ?_); rintro e w1 ⟨rfl, hb⟩; have O := Lib.hid (own_below O.out hb); have hBr := Nat.le_trans hBr hb.size; have hw := hw.trans (hb.mono hw.size); have Q := Q.below hb; obtain ⟨q_0, q_1, q_2, q_3⟩ := Q.box4; have hsQ := World.block_lt_of_cell? _ _ q_0; dsimp only at hsQ; clear hb) | (go_at_call 45; (with_reducible refine (impl_Quote_c s (by omega) _).mono ?_); rintro e w1 ⟨rfl, hb⟩; have O := Lib.hid (own_below O.out hb); have hBr := Nat.le_trans hBr hb.size; have hw := hw.trans (hb.mono hw.size); have Q := Q.below hb; obtain ⟨q_0, q_1, q_2, q_3⟩ := Q.box4; have hsQ := World.block_lt_of_cell? _ _ q_0; dsimp only at hsQ; clear hb))
            rw [hline.out]
            generalize insLine k ⟨7, a, b, s⟩ = L at *
            go_upto_region 20 with (first
              | (at_builtin; refine Lib.wpList_append_own_string _ rfl _ _ _ _ rfl B 5 i0 Try.underlying67 Try.underlying9 I.out I0.out I1.out I2.out (.slice va nv vc) nv (Lib.strCells (T k)) rfl O.out L rfl (by unfold maxLen; omega) (by omega) (by omega) ?_; intro v' w5 hown5 hgrow5 _; obtain ⟨a5, c5, rfl⟩ := own_form hown5; have hb5 : Below w.heap.size w w5 := below_grown hw hw.size (own_lo O.out (Nat.le_of_lt hBw)) hgrow5; have hz5 : B ≤ w5.heap.size := Nat.le_trans hBr hgrow5.size)
              | (at_builtin; refine wpList_append_lies _ rfl _ _ _ rfl B 5 i0 _ 1 1 Try.underlying67 I.out I0.out I1.out I2.out rfl (by omega) (.slice a5 (nv + L.size) c5) (nv + L.size) (Lib.strCells (T k) ++ Lib.strCells L) rfl (own_below hown5 (by go_grown)) ⟨w5.heap.size, 0, none⟩ 1 1 [.int .u8 10] rfl rfl (World.news_of_block (cs := #[.int .u8 10]) (t := 5) (fr := (0, 0)) (heap_alloc_new' _ _ _ (by simp))) (by intro u hu; simp at hu; subst hu; rfl) (by omega) (by unfold maxLen; omega) (by omega) (by simp; omega) _ rfl ?_; intro g7 cap7 w7 hown7 hgrow7 hat7 hlt7))
            have hw7 := below_grown2 (wr := w5) (w := w) (base := w.heap.size) hgrow7 (by go_grown) hb5 hb5.size (own_lo hown5 (Nat.le_of_lt hBw))
            have hz7 : B ≤ w7.heap.size := by have := hgrow7.size; simp at this; omega
            have O7 : w7.ownsRow B 5 1 (.slice (some ⟨g7, 0, none⟩) (nv + L.size + 1) cap7) (nv + L.size + 1) (Lib.strCells (T (k + 1))) := by
              have e : Lib.strCells (T (k + 1)) = Lib.strCells (T k) ++ Lib.strCells L ++ [.int .u8 10] := by rw [hst.out, ← cells_app, ← cells_app]; rfl
              rw [e]; exact hown7
            have hn7 : nv + L.size + 1 = (T (k + 1)).size := by rw [hst.out, ByteArray.size_append, ByteArray.size_append, ← hnv.out]; rfl
            replace O7 := Lib.hid O7; replace hn7 := Lib.hid hn7
            clear hown5 hgrow5 hown7 hgrow7 hat7 hlt7
            go_wp2_with fail
            go_roundw
            case rel => exact ⟨k + 1, _, _, _, by omega, by go_num, rfl, ⟨g7, rfl⟩, hw7, hz7, hn7, O7⟩
            case measure => simp [intOf]; omega
          · have hl0 : leadsP 4 = false := by decide
            have ha0 : (aOps.any fun y => (4 : Int) == y) = true := by decide
            rw [hl0] at cl
            rw [ha0] at cA
            have hline : L1 ++ ⟨#[32]⟩ ++ numText a ++ ⟨#[32]⟩ ++ s = insLine k ⟨4, a, b, s⟩ := by (unfold insLine; rw [if_neg (by dsimp only; decide), if_pos (by dsimp only; decide), line2_yes (by decide), hL1e.out]; rfl)
            replace hline := Lib.hid hline; replace cl := Lib.hid cl; replace cA := Lib.hid cA; replace hsA := Lib.hid hsA
            go_upto_region 19 with (first | (go_at_call 42; (with_reducible refine (cl.out _).mono ?_); rintro e w1 ⟨rfl, rfl⟩) | (go_at_call 43; (with_reducible refine (cA.out _ _ (aOps_sl _)).mono ?_); rintro e w1 ⟨rfl, hb⟩; have hb := Below.trans (show Below wr.heap.size wr _ by go_grown) (hb.mono (by go_grown)); have O := Lib.hid (own_below O.out hb); have hBr := Nat.le_trans hBr hb.size; have hw := hw.trans (hb.mono hw.size); have Q := Q.below hb; obtain ⟨q_0, q_1, q_2, q_3⟩ := Q.box4; have hsQ := World.block_lt_of_cell? _ _ q_0; dsimp only at hsQ; clear hb) | (go_at_call 44; (with_reducible refine (impl_NumText_c a ha64.out _).mono ?_); rintro e w1 ⟨rfl, hb⟩; have O := Lib.hid (own_below O.out hb); have hBr := Nat.le_trans hBr hb.size; have hw := hw.trans (hb.mono hw.size); have Q := Q.below hb; obtain ⟨q_0, q_1, q_2, q_3⟩ := Q.box4; have hsQ := World.block_lt_of_cell? _ _ q_0; dsimp only at hsQ; clear hb) | (go_at_call 44; (with_reducible refine (impl_NumText_c b hb64.out _).mono ?_); rintro e w1 ⟨rfl, hb⟩; have O := Lib.hid (own_below O.out hb); have hBr := Nat.le_trans hBr hb.size; have hw := hw.trans (hb.mono hw.size); have Q := Q.below hb; obtain ⟨q_0, q_1, q_2, q_3⟩ := Q.box4; have hsQ := World.block_lt_of_cell? _ _ q_0; dsimp only at hsQ; clear hb) | (go_at_call 45; (with_reducible refine (impl_Quote_c s (by omega) _).mono ?_); rintro e w1 ⟨rfl, hb⟩; have O := Lib.hid (own_below O.out hb); have hBr := Nat.le_trans hBr hb.size; have hw := hw.trans (hb.mono hw.size); have Q := Q.below hb; obtain ⟨q_0, q_1, q_2, q_3⟩ := Q.box4; have hsQ := World.block_lt_of_cell? _ _ q_0; dsimp only at hsQ; clear hb))
            rw [hline.out]
            generalize insLine k ⟨4, a, b, s⟩ = L at *
            go_upto_region 20 with (first
              | (at_builtin; refine Lib.wpList_append_own_string _ rfl _ _ _ _ rfl B 5 i0 Try.underlying67 Try.underlying9 I.out I0.out I1.out I2.out (.slice va nv vc) nv (Lib.strCells (T k)) rfl O.out L rfl (by unfold maxLen; omega) (by omega) (by omega) ?_; intro v' w5 hown5 hgrow5 _; obtain ⟨a5, c5, rfl⟩ := own_form hown5; have hb5 : Below w.heap.size w w5 := below_grown hw hw.size (own_lo O.out (Nat.le_of_lt hBw)) hgrow5; have hz5 : B ≤ w5.heap.size := Nat.le_trans hBr hgrow5.size)
              | (at_builtin; refine wpList_append_lies _ rfl _ _ _ rfl B 5 i0 _ 1 1 Try.underlying67 I.out I0.out I1.out I2.out rfl (by omega) (.slice a5 (nv + L.size) c5) (nv + L.size) (Lib.strCells (T k) ++ Lib.strCells L) rfl (own_below hown5 (by go_grown)) ⟨w5.heap.size, 0, none⟩ 1 1 [.int .u8 10] rfl rfl (World.news_of_block (cs := #[.int .u8 10]) (t := 5) (fr := (0, 0)) (heap_alloc_new' _ _ _ (by simp))) (by intro u hu; simp at hu; subst hu; rfl) (by omega) (by unfold maxLen; omega) (by omega) (by simp; omega) _ rfl ?_; intro g7 cap7 w7 hown7 hgrow7 hat7 hlt7))
            have hw7 := below_grown2 (wr := w5) (w := w) (base := w.heap.size) hgrow7 (by go_grown) hb5 hb5.size (own_lo hown5 (Nat.le_of_lt hBw))
            have hz7 : B ≤ w7.heap.size := by have := hgrow7.size; simp at this; omega
            have O7 : w7.ownsRow B 5 1 (.slice (some ⟨g7, 0, none⟩) (nv + L.size + 1) cap7) (nv + L.size + 1) (Lib.strCells (T (k + 1))) := by
              have e : Lib.strCells (T (k + 1)) = Lib.strCells (T k) ++ Lib.strCells L ++ [.int .u8 10] := by rw [hst.out, ← cells_app, ← cells_app]; rfl
              rw [e]; exact hown7
            have hn7 : nv + L.size + 1 = (T (k + 1)).size := by rw [hst.out, ByteArray.size_append, ByteArray.size_append, ← hnv.out]; rfl
            replace O7 := Lib.hid O7; replace hn7 := Lib.hid hn7
            clear hown5 hgrow5 hown7 hgrow7 hat7 hlt7
            go_wp2_with fail
            go_roundw
            case rel => exact ⟨k + 1, _, _, _, by omega, by go_num, rfl, ⟨g7, rfl⟩, hw7, hz7, hn7, O7⟩
            case measure => simp [intOf]; omega
          · have hl0 : leadsP 16 = false := by decide
            have ha0 : (aOps.any fun y => (16 : Int) == y) = false := by decide
            rw [hl0] at cl
            rw [ha0] at cA
            have hline : L1 ++ ⟨#[32]⟩ ++ s = insLine k ⟨16, a, b, s⟩ := by (unfold insLine; rw [if_neg (by dsimp only; decide), if_pos (by dsimp only; decide), line2_no (by decide), hL1e.out]; rfl)
            replace hline := Lib.hid hline; replace cl := Lib.hid cl; replace cA := Lib.hid cA; replace hsA := Lib.hid hsA
            go_upto_region 19 with (first | (go_at_call 42; (with_reducible refine (cl.out _).mono ?_); rintro e w1 ⟨rfl, rfl⟩) | (go_at_call 43; (with_reducible refine (cA.out _ _ (aOps_sl _)).mono ?_); rintro e w1 ⟨rfl, hb⟩; have hb := Below.trans (show Below wr.heap.size wr _ by go_grown) (hb.mono (by go_grown)); have O := Lib.hid (own_below O.out hb); have hBr := Nat.le_trans hBr hb.size; have hw := hw.trans (hb.mono hw.size); have Q := Q.below hb; obtain ⟨q_0, q_1, q_2, q_3⟩ := Q.box4; have hsQ := World.block_lt_of_cell? _ _ q_0; dsimp only at hsQ; clear hb) | (go_at_call 44; (with_reducible refine (impl_NumText_c a ha64.out _).mono ?_); rintro e w1 ⟨rfl, hb⟩; have O := Lib.hid (own_below O.out hb); have hBr := Nat.le_trans hBr hb.size; have hw := hw.trans (hb.mono hw.size); have Q := Q.below hb; obtain ⟨q_0, q_1, q_2, q_3⟩ := Q.box4; have hsQ := World.block_lt_of_cell? _ _ q_0; dsimp only at hsQ; clear hb) | (go_at_call 44; (with_reducible refine (impl_NumText_c b hb64.out _).mono ?_); rintro e w1 ⟨rfl, hb⟩; have O := Lib.hid (own_below O.out hb); have hBr := Nat.le_trans hBr hb.size; have hw := hw.trans (hb.mono hw.size); have Q := Q.below hb; obtain ⟨q_0, q_1, q_2, q_3⟩ := Q.box4; have hsQ := World.block_lt_of_cell? _ _ q_0; dsimp only at hsQ; clear hb) | (go_at_call 45; (with_reducible refine (impl_Quote_c s (by omega) _).mono ?_); rintro e w1 ⟨rfl, hb⟩; have O := Lib.hid (own_below O.out hb); have hBr := Nat.le_trans hBr hb.size; have hw := hw.trans (hb.mono hw.size); have Q := Q.below hb; obtain ⟨q_0, q_1, q_2, q_3⟩ := Q.box4; have hsQ := World.block_lt_of_cell? _ _ q_0; dsimp only at hsQ; clear hb))
            rw [hline.out]
            generalize insLine k ⟨16, a, b, s⟩ = L at *
            go_upto_region 20 with (first
              | (at_builtin; refine Lib.wpList_append_own_string _ rfl _ _ _ _ rfl B 5 i0 Try.underlying67 Try.underlying9 I.out I0.out I1.out I2.out (.slice va nv vc) nv (Lib.strCells (T k)) rfl O.out L rfl (by unfold maxLen; omega) (by omega) (by omega) ?_; intro v' w5 hown5 hgrow5 _; obtain ⟨a5, c5, rfl⟩ := own_form hown5; have hb5 : Below w.heap.size w w5 := below_grown hw hw.size (own_lo O.out (Nat.le_of_lt hBw)) hgrow5; have hz5 : B ≤ w5.heap.size := Nat.le_trans hBr hgrow5.size)
              | (at_builtin; refine wpList_append_lies _ rfl _ _ _ rfl B 5 i0 _ 1 1 Try.underlying67 I.out I0.out I1.out I2.out rfl (by omega) (.slice a5 (nv + L.size) c5) (nv + L.size) (Lib.strCells (T k) ++ Lib.strCells L) rfl (own_below hown5 (by go_grown)) ⟨w5.heap.size, 0, none⟩ 1 1 [.int .u8 10] rfl rfl (World.news_of_block (cs := #[.int .u8 10]) (t := 5) (fr := (0, 0)) (heap_alloc_new' _ _ _ (by simp))) (by intro u hu; simp at hu; subst hu; rfl) (by omega) (by unfold maxLen; omega) (by omega) (by simp; omega) _ rfl ?_; intro g7 cap7 w7 hown7 hgrow7 hat7 hlt7))
            have hw7 := below_grown2 (wr := w5) (w := w) (base := w.heap.size) hgrow7 (by go_grown) hb5 hb5.size (own_lo hown5 (Nat.le_of_lt hBw))
            have hz7 : B ≤ w7.heap.size := by have := hgrow7.size; simp at this; omega
            have O7 : w7.ownsRow B 5 1 (.slice (some ⟨g7, 0, none⟩) (nv + L.size + 1) cap7) (nv + L.size + 1) (Lib.strCells (T (k + 1))) := by
              have e : Lib.strCells (T (k + 1)) = Lib.strCells (T k) ++ Lib.strCells L ++ [.int .u8 10] := by rw [hst.out, ← cells_app, ← cells_app]; rfl
              rw [e]; exact hown7
            have hn7 : nv + L.size + 1 = (T (k + 1)).size := by rw [hst.out, ByteArray.size_append, ByteArray.size_append, ← hnv.out]; rfl
            replace O7 := Lib.hid O7; replace hn7 := Lib.hid hn7
            clear hown5 hgrow5 hown7 hgrow7 hat7 hlt7
            go_wp2_with fail
            go_roundw
            case rel => exact ⟨k + 1, _, _, _, by omega, by go_num, rfl, ⟨g7, rfl⟩, hw7, hz7, hn7, O7⟩
            case measure => simp [intOf]; omega
          · have hl0 : leadsP 2 = false := by decide
            have ha0 : (aOps.any fun y => (2 : Int) == y) = false := by decide
            rw [hl0] at cl
            rw [ha0] at cA
            have hline : L1 ++ ⟨#[32]⟩ ++ quoteS s = insLine k ⟨2, a, b, s⟩ := by (unfold insLine; rw [if_neg (by dsimp only; decide), if_neg (by dsimp only; decide), if_pos rfl, line2_no (by decide), hL1e.out]; rfl)
            replace hline := Lib.hid hline; replace cl := Lib.hid cl; replace cA := Lib.hid cA; replace hsA := Lib.hid hsA
            go_upto_region 19 with (first | (go_at_call 42; (with_reducible refine (cl.out _).mono ?_); rintro e w1 ⟨rfl, rfl⟩) | (go_at_call 43; (with_reducible refine (cA.out _ _ (aOps_sl _)).mono ?_); rintro e w1 ⟨rfl, hb⟩; have hb := Below.trans (show Below wr.heap.size wr _ by go_grown) (hb.mono (by go_grown)); have O := Lib.hid (own_below O.out hb); have hBr := Nat.le_trans hBr hb.size; have hw := hw.trans (hb.mono hw.size); have Q := Q.below hb; obtain ⟨q_0, q_1, q_2, q_3⟩ := Q.box4; have hsQ := World.block_lt_of_cell? _ _ q_0; dsimp only at hsQ; clear hb) | (go_at_call 44; (with_reducible refine (impl_NumText_c a ha64.out _).mono ?_); rintro e w1 ⟨rfl, hb⟩; have O := Lib.hid (own_below O.out hb); have hBr := Nat.le_trans hBr hb.size; have hw := hw.trans (hb.mono hw.size); have Q := Q.below hb; obtain ⟨q_0, q_1, q_2, q_3⟩ := Q.box4; have hsQ := World.block_lt_of_cell? _ _ q_0; dsimp only at hsQ; clear hb) | (go_at_call 44; (with_reducible refine (impl_NumText_c b hb64.out _).mono ?_); rintro e w1 ⟨rfl, hb⟩; have O := Lib.hid (own_below O.out hb); have hBr := Nat.le_trans hBr hb.size; have hw := hw.trans (hb.mono hw.size); have Q := Q.below hb; obtain ⟨q_0, q_1, q_2, q_3⟩ := Q.box4; have hsQ := World.block_lt_of_cell? _ _ q_0; dsimp only at hsQ; clear hb) | (go_at_call 45; (with_reducible refine (impl_Quote_c s (by omega) _).mono ?_); rintro e w1 ⟨rfl, hb⟩; have O := Lib.hid (own_below O.out hb); have hBr := Nat.le_trans hBr hb.size; have hw := hw.trans (hb.mono hw.size); have Q := Q.below hb; obtain ⟨q_0, q_1, q_2, q_3⟩ := Q.box4; have hsQ := World.block_lt_of_cell? _ _ q_0; dsimp only at hsQ; clear hb))
            rw [hline.out]
            generalize insLine k ⟨2, a, b, s⟩ = L at *
            go_upto_region 20 with (first
              | (at_builtin; refine Lib.wpList_append_own_string _ rfl _ _ _ _ rfl B 5 i0 Try.underlying67 Try.underlying9 I.out I0.out I1.out I2.out (.slice va nv vc) nv (Lib.strCells (T k)) rfl O.out L rfl (by unfold maxLen; omega) (by omega) (by omega) ?_; intro v' w5 hown5 hgrow5 _; obtain ⟨a5, c5, rfl⟩ := own_form hown5; have hb5 : Below w.heap.size w w5 := below_grown hw hw.size (own_lo O.out (Nat.le_of_lt hBw)) hgrow5; have hz5 : B ≤ w5.heap.size := Nat.le_trans hBr hgrow5.size)
              | (at_builtin; refine wpList_append_lies _ rfl _ _ _ rfl B 5 i0 _ 1 1 Try.underlying67 I.out I0.out I1.out I2.out rfl (by omega) (.slice a5 (nv + L.size) c5) (nv + L.size) (Lib.strCells (T k) ++ Lib.strCells L) rfl (own_below hown5 (by go_grown)) ⟨w5.heap.size, 0, none⟩ 1 1 [.int .u8 10] rfl rfl (World.news_of_block (cs := #[.int .u8 10]) (t := 5) (fr := (0, 0)) (heap_alloc_new' _ _ _ (by simp))) (by intro u hu; simp at hu; subst hu; rfl) (by omega) (by unfold maxLen; omega) (by omega) (by simp; omega) _ rfl ?_; intro g7 cap7 w7 hown7 hgrow7 hat7 hlt7))
            have hw7 := below_grown2 (wr := w5) (w := w) (base := w.heap.size) hgrow7 (by go_grown) hb5 hb5.size (own_lo hown5 (Nat.le_of_lt hBw))
            have hz7 : B ≤ w7.heap.size := by have := hgrow7.size; simp at this; omega
            have O7 : w7.ownsRow B 5 1 (.slice (some ⟨g7, 0, none⟩) (nv + L.size + 1) cap7) (nv + L.size + 1) (Lib.strCells (T (k + 1))) := by
              have e : Lib.strCells (T (k + 1)) = Lib.strCells (T k) ++ Lib.strCells L ++ [.int .u8 10] := by rw [hst.out, ← cells_app, ← cells_app]; rfl
              rw [e]; exact hown7
            have hn7 : nv + L.size + 1 = (T (k + 1)).size := by rw [hst.out, ByteArray.size_append, ByteArray.size_append, ← hnv.out]; rfl
            replace O7 := Lib.hid O7; replace hn7 := Lib.hid hn7
            clear hown5 hgrow5 hown7 hgrow7 hat7 hlt7
            go_wp2_with fail
            go_roundw
            case rel => exact ⟨k + 1, _, _, _, by omega, by go_num, rfl, ⟨g7, rfl⟩, hw7, hz7, hn7, O7⟩
            case measure => simp [intOf]; omega
          · have hir := insLine_rest (k := k) (a := a) (b := b) (s := s) hrest
            obtain ⟨d20, d7, d4, d16, d2⟩ := hrest
            cases hl0 : leadsP op
            · cases ha0 : (aOps.any fun y => op == y)
              · rw [hl0] at cl
                rw [ha0] at cA
                have hno : showsA op = false := by rw [hsA, hl0, ha0]; rfl
                have hline : L1 = insLine k ⟨op, a, b, s⟩ := by (rw [hir, line2_no hno, hL1e.out])
                replace hline := Lib.hid hline; replace cl := Lib.hid cl; replace cA := Lib.hid cA; replace hsA := Lib.hid hsA
                clear hir
                go_upto_region 19 with (first | (go_at_call 42; (with_reducible refine (cl.out _).mono ?_); rintro e w1 ⟨rfl, rfl⟩) | (go_at_call 43; (with_reducible refine (cA.out _ _ (aOps_sl _)).mono ?_); rintro e w1 ⟨rfl, hb⟩; have hb := Below.trans (show Below wr.heap.size wr _ by go_grown) (hb.mono (by go_grown)); have O := Lib.hid (own_below O.out hb); have hBr := Nat.le_trans hBr hb.size; have hw := hw.trans (hb.mono hw.size); have Q := Q.below hb; obtain ⟨q_0, q_1, q_2, q_3⟩ := Q.box4; have hsQ := World.block_lt_of_cell? _ _ q_0; dsimp only at hsQ; clear hb) | (go_at_call 44; (with_reducible refine (impl_NumText_c a ha64.out _).mono ?_); rintro e w1 ⟨rfl, hb⟩; have O := Lib.hid (own_below O.out hb); have hBr := Nat.le_trans hBr hb.size; have hw := hw.trans (hb.mono hw.size); have Q := Q.below hb; obtain ⟨q_0, q_1, q_2, q_3⟩ := Q.box4; have hsQ := World.block_lt_of_cell? _ _ q_0; dsimp only at hsQ; clear hb) | (go_at_call 44; (with_reducible refine (impl_NumText_c b hb64.out _).mono ?_); rintro e w1 ⟨rfl, hb⟩; have O := Lib.hid (own_below O.out hb); have hBr := Nat.le_trans hBr hb.size; have hw := hw.trans (hb.mono hw.size); have Q := Q.below hb; obtain ⟨q_0, q_1, q_2, q_3⟩ := Q.box4; have hsQ := World.block_lt_of_cell? _ _ q_0; dsimp only at hsQ; clear hb) | (go_at_call 45; (with_reducible refine (impl_Quote_c s (by omega) _).mono ?_); rintro e w1 ⟨rfl, hb⟩; have O := Lib.hid (own_below O.out hb); have hBr := Nat.le_trans hBr hb.size; have hw := hw.trans (hb.mono hw.size); have Q := Q.below hb; obtain ⟨q_0, q_1, q_2, q_3⟩ := Q.box4; have hsQ := World.block_lt_of_cell? _ _ q_0; dsimp only at hsQ; clear hb))
                rw [hline.out]
                generalize insLine k ⟨op, a, b, s⟩ = L at *
                go_upto_region 20 with (first
                  | (at_builtin; refine Lib.wpList_append_own_string _ rfl _ _ _ _ rfl B 5 i0 Try.underlying67 Try.underlying9 I.out I0.out I1.out I2.out (.slice va nv vc) nv (Lib.strCells (T k)) rfl O.out L rfl (by unfold maxLen; omega) (by omega) (by omega) ?_; intro v' w5 hown5 hgrow5 _; obtain ⟨a5, c5, rfl⟩ := own_form hown5; have hb5 : Below w.heap.size w w5 := below_grown hw hw.size (own_lo O.out (Nat.le_of_lt hBw)) hgrow5; have hz5 : B ≤ w5.heap.size := Nat.le_trans hBr hgrow5.size)
                  | (at_builtin; refine wpList_append_lies _ rfl _ _ _ rfl B 5 i0 _ 1 1 Try.underlying67 I.out I0.out I1.out I2.out rfl (by omega) (.slice a5 (nv + L.size) c5) (nv + L.size) (Lib.strCells (T k) ++ Lib.strCells L) rfl (own_below hown5 (by go_grown)) ⟨w5.heap.size, 0, none⟩ 1 1 [.int .u8 10] rfl rfl (World.news_of_block (cs := #[.int .u8 10]) (t := 5) (fr := (0, 0)) (heap_alloc_new' _ _ _ (by simp))) (by intro u hu; simp at hu; subst hu; rfl) (by omega) (by unfold maxLen; omega) (by omega) (by simp; omega) _ rfl ?_; intro g7 cap7 w7 hown7 hgrow7 hat7 hlt7))
                have hw7 := below_grown2 (wr := w5) (w := w) (base := w.heap.size) hgrow7 (by go_grown) hb5 hb5.size (own_lo hown5 (Nat.le_of_lt hBw))
                have hz7 : B ≤ w7.heap.size := by have := hgrow7.size; simp at this; omega
                have O7 : w7.ownsRow B 5 1 (.slice (some ⟨g7, 0, none⟩) (nv + L.size + 1) cap7) (nv + L.size + 1) (Lib.strCells (T (k + 1))) := by
                  have e : Lib.strCells (T (k + 1)) = Lib.strCells (T k) ++ Lib.strCells L ++ [.int .u8 10] := by rw [hst.out, ← cells_app, ← cells_app]; rfl
                  rw [e]; exact hown7
                have hn7 : nv + L.size + 1 = (T (k + 1)).size := by rw [hst.out, ByteArray.size_append, ByteArray.size_append, ← hnv.out]; rfl
                replace O7 := Lib.hid O7; replace hn7 := Lib.hid hn7
                clear hown5 hgrow5 hown7 hgrow7 hat7 hlt7
                go_wp2_with fail
                go_roundw
                case rel => exact ⟨k + 1, _, _, _, by omega, by go_num, rfl, ⟨g7, rfl⟩, hw7, hz7, hn7, O7⟩
                case measure => simp [intOf]; omega
              · rw [hl0] at cl
                rw [ha0] at cA
                have hno : showsA op = true := by rw [hsA, hl0, ha0]; rfl
                have hline : L1 ++ ⟨#[32]⟩ ++ numText a = insLine k ⟨op, a, b, s⟩ := by (rw [hir, line2_yes hno, hL1e.out]; rfl)
                replace hline := Lib.hid hline; replace cl := Lib.hid cl; replace cA := Lib.hid cA; replace hsA := Lib.hid hsA
                clear hir
                go_upto_region 19 with (first | (go_at_call 42; (with_reducible refine (cl.out _).mono ?_); rintro e w1 ⟨rfl, rfl⟩) | (go_at_call 43; (with_reducible refine (cA.out _ _ (aOps_sl _)).mono ?_); rintro e w1 ⟨rfl, hb⟩; have hb := Below.trans (show Below wr.heap.size wr _ by go_grown) (hb.mono (by go_grown)); have O := Lib.hid (own_below O.out hb); have hBr := Nat.le_trans hBr hb.size; have hw := hw.trans (hb.mono hw.size); have Q := Q.below hb; obtain ⟨q_0, q_1, q_2, q_3⟩ := Q.box4; have hsQ := World.block_lt_of_cell? _ _ q_0; dsimp only at hsQ; clear hb) | (go_at_call 44; (with_reducible refine (impl_NumText_c a ha64.out _).mono ?_); rintro e w1 ⟨rfl, hb⟩; have O := Lib.hid (own_below O.out hb); have hBr := Nat.le_trans hBr hb.size; have hw := hw.trans (hb.mono hw.size); have Q := Q.below hb; obtain ⟨q_0, q_1, q_2, q_3⟩ := Q.box4; have hsQ := World.block_lt_of_cell? _ _ q_0; dsimp only at hsQ; clear hb) | (go_at_call 44; (with_reducible refine (impl_NumText_c b hb64.out _).mono ?_); rintro e w1 ⟨rfl, hb⟩; have O := Lib.hid (own_below O.out hb); have hBr := Nat.le_trans hBr hb.size; have hw := hw.trans (hb.mono hw.size); have Q := Q.below hb; obtain ⟨q_0, q_1, q_2, q_3⟩ := Q.box4; have hsQ := World.block_lt_of_cell? _ _ q_0; dsimp only at hsQ; clear hb) | (go_at_call 45; (with_reducible refine (impl_Quote_c s (by omega) _).mono ?_); rintro e w1 ⟨rfl, hb⟩; have O := Lib.hid (own_below O.out hb); have hBr := Nat.le_trans hBr hb.size; have hw := hw.trans (hb.mono hw.size); have Q := Q.below hb; obtain ⟨q_0, q_1, q_2, q_3⟩ := Q.box4; have hsQ := World.block_lt_of_cell? _ _ q_0; dsimp only at hsQ; clear hb))
                rw [hline.out]
                generalize insLine k ⟨op, a, b, s⟩ = L at *
                go_upto_region 20 with (first
                  | (at_builtin; refine Lib.wpList_append_own_string _ rfl _ _ _ _ rfl B 5 i0 Try.underlying67 Try.underlying9 I.out I0.out I1.out I2.out (.slice va nv vc) nv (Lib.strCells (T k)) rfl O.out L rfl (by unfold maxLen; omega) (by omega) (by omega) ?_; intro v' w5 hown5 hgrow5 _; obtain ⟨a5, c5, rfl⟩ := own_form hown5; have hb5 : Below w.heap.size w w5 := below_grown hw hw.size (own_lo O.out (Nat.le_of_lt hBw)) hgrow5; have hz5 : B ≤ w5.heap.size := Nat.le_trans hBr hgrow5.size)
                  | (at_builtin; refine wpList_append_lies _ rfl _ _ _ rfl B 5 i0 _ 1 1 Try.underlying67 I.out I0.out I1.out I2.out rfl (by omega) (.slice a5 (nv + L.size) c5) (nv + L.size) (Lib.strCells (T k) ++ Lib.strCells L) rfl (own_below hown5 (by go_grown)) ⟨w5.heap.size, 0, none⟩ 1 1 [.int .u8 10] rfl rfl (World.news_of_block (cs := #[.int .u8 10]) (t := 5) (fr := (0, 0)) (heap_alloc_new' _ _ _ (by simp))) (by intro u hu; simp at hu; subst hu; rfl) (by omega) (by unfold maxLen; omega) (by omega) (by simp; omega) _ rfl ?_; intro g7 cap7 w7 hown7 hgrow7 hat7 hlt7))
                have hw7 := below_grown2 (wr := w5) (w := w) (base := w.heap.size) hgrow7 (by go_grown) hb5 hb5.size (own_lo hown5 (Nat.le_of_lt hBw))
                have hz7 : B ≤ w7.heap.size := by have := hgrow7.size; simp at this; omega
                have O7 : w7.ownsRow B 5 1 (.slice (some ⟨g7, 0, none⟩) (nv + L.size + 1) cap7) (nv + L.size + 1) (Lib.strCells (T (k + 1))) := by
                  have e : Lib.strCells (T (k + 1)) = Lib.strCells (T k) ++ Lib.strCells L ++ [.int .u8 10] := by rw [hst.out, ← cells_app, ← cells_app]; rfl
                  rw [e]; exact hown7
                have hn7 : nv + L.size + 1 = (T (k + 1)).size := by rw [hst.out, ByteArray.size_append, ByteArray.size_append, ← hnv.out]; rfl
                replace O7 := Lib.hid O7; replace hn7 := Lib.hid hn7
                clear hown5 hgrow5 hown7 hgrow7 hat7 hlt7
                go_wp2_with fail
                go_roundw
                case rel => exact ⟨k + 1, _, _, _, by omega, by go_num, rfl, ⟨g7, rfl⟩, hw7, hz7, hn7, O7⟩
                case measure => simp [intOf]; omega
            · rw [hl0] at cl
              have hno : showsA op = true := by rw [hsA, hl0]; rfl
              have hline : L1 ++ ⟨#[32]⟩ ++ numText a = insLine k ⟨op, a, b, s⟩ := by (rw [hir, line2_yes hno, hL1e.out]; rfl)
              replace hline := Lib.hid hline; replace cl := Lib.hid cl; replace cA := Lib.hid cA; replace hsA := Lib.hid hsA
              clear hir
              go_upto_region 19 with (first | (go_at_call 42; (with_reducible refine (cl.out _).mono ?_); rintro e w1 ⟨rfl, rfl⟩) | (go_at_call 43; (with_reducible refine (cA.out _ _ (aOps_sl _)).mono ?_); rintro e w1 ⟨rfl, hb⟩; have hb := Below.trans (show Below wr.heap.size wr _ by go_grown) (hb.mono (by go_grown)); have O := Lib.hid (own_below O.out hb); have hBr := Nat.le_trans hBr hb.size; have hw := hw.trans (hb.mono hw.size); have Q := Q.below hb; obtain ⟨q_0, q_1, q_2, q_3⟩ := Q.box4; have hsQ := World.block_lt_of_cell? _ _ q_0; dsimp only at hsQ; clear hb) | (go_at_call 44; (with_reducible refine (impl_NumText_c a ha64.out _).mono ?_); rintro e w1 ⟨rfl, hb⟩; have O := Lib.hid (own_below O.out hb); have hBr := Nat.le_trans hBr hb.size; have hw := hw.trans (hb.mono hw.size); have Q := Q.below hb; obtain ⟨q_0, q_1, q_2, q_3⟩ := Q.box4; have hsQ := World.block_lt_of_cell? _ _ q_0; dsimp only at hsQ; clear hb) | (go_at_call 44; (with_reducible refine (impl_NumText_c b hb64.out _).mono ?_); rintro e w1 ⟨rfl, hb⟩; have O := Lib.hid (own_below O.out hb); have hBr := Nat.le_trans hBr hb.size; have hw := hw.trans (hb.mono hw.size); have Q := Q.below hb; obtain ⟨q_0, q_1, q_2, q_3⟩ := Q.box4; have hsQ := World.block_lt_of_cell? _ _ q_0; dsimp only at hsQ; clear hb) | (go_at_call 45; (with_reducible refine (impl_Quote_c s (by omega) _).mono ?_); rintro e w1 ⟨rfl, hb⟩; have O := Lib.hid (own_below O.out hb); have hBr := Nat.le_trans hBr hb.size; have hw := hw.trans (hb.mono hw.size); have Q := Q.below hb; obtain ⟨q_0, q_1, q_2, q_3⟩ := Q.box4; have hsQ := World.block_lt_of_cell? _ _ q_0; dsimp only at hsQ; clear hb))
              rw [hline.out]
              generalize insLine k ⟨op, a, b, s⟩ = L at *
              go_upto_region 20 with (first
                | (at_builtin; refine Lib.wpList_append_own_string _ rfl _ _ _ _ rfl B 5 i0 Try.underlying67 Try.underlying9 I.out I0.out I1.out I2.out (.slice va nv vc) nv (Lib.strCells (T k)) rfl O.out L rfl (by unfold maxLen; omega) (by omega) (by omega) ?_; intro v' w5 hown5 hgrow5 _; obtain ⟨a5, c5, rfl⟩ := own_form hown5; have hb5 : Below w.heap.size w w5 := below_grown hw hw.size (own_lo O.out (Nat.le_of_lt hBw)) hgrow5; have hz5 : B ≤ w5.heap.size := Nat.le_trans hBr hgrow5.size)
                | (at_builtin; refine wpList_append_lies _ rfl _ _ _ rfl B 5 i0 _ 1 1 Try.underlying67 I.out I0.out I1.out I2.out rfl (by omega) (.slice a5 (nv + L.size) c5) (nv + L.size) (Lib.strCells (T k) ++ Lib.strCells L) rfl (own_below hown5 (by go_grown)) ⟨w5.heap.size, 0, none⟩ 1 1 [.int .u8 10] rfl rfl (World.news_of_block (cs := #[.int .u8 10]) (t := 5) (fr := (0, 0)) (heap_alloc_new' _ _ _ (by simp))) (by intro u hu; simp at hu; subst hu; rfl) (by omega) (by unfold maxLen; omega) (by omega) (by simp; omega) _ rfl ?_; intro g7 cap7 w7 hown7 hgrow7 hat7 hlt7))
              have hw7 := below_grown2 (wr := w5) (w := w) (base := w.heap.size) hgrow7 (by go_grown) hb5 hb5.size (own_lo hown5 (Nat.le_of_lt hBw))
              have hz7 : B ≤ w7.heap.size := by have := hgrow7.size; simp at this; omega
              have O7 : w7.ownsRow B 5 1 (.slice (some ⟨g7, 0, none⟩) (nv + L.size + 1) cap7) (nv + L.size + 1) (Lib.strCells (T (k + 1))) := by
                have e : Lib.strCells (T (k + 1)) = Lib.strCells (T k) ++ Lib.strCells L ++ [.int .u8 10] := by rw [hst.out, ← cells_app, ← cells_app]; rfl
                rw [e]; exact hown7
              have hn7 : nv + L.size + 1 = (T (k + 1)).size := by rw [hst.out, ByteArray.size_append, ByteArray.size_append, ← hnv.out]; rfl
              replace O7 := Lib.hid O7; replace hn7 := Lib.hid hn7
              clear hown5 hgrow5 hown7 hgrow7 hat7 hlt7
              go_wp2_with fail
              go_roundw
              case rel => exact ⟨k + 1, _, _, _, by omega, by go_num, rfl, ⟨g7, rfl⟩, hw7, hz7, hn7, O7⟩
              case measure => simp [intOf]; omega
      · obtain rfl : k = n := by omega
        obtain ⟨g, rfl⟩ := hva.out
        have hrun := conv_own (l := (T k).data.toList) O.out (by rw [hnv.out, Array.length_toList]; rfl)
        have hR' : (⟨(T k).data.toList.toArray⟩ : ByteArray) = R := by rw [Array.toArray_toList]; exact hR.out
        rw [hR'] at hrun
        clear hR'
        go_wp2_with fail
        go_returns
        exact ⟨rfl, hw⟩

end Go.Proofs.Ytklfepnokidnaaa
