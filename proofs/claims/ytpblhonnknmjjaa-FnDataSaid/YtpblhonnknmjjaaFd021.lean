/- Parts of the proof, merged: Rd4. -/
import Derived.Test.YtpblhonnknmjjaaFd020
/- The reference's l21Pair. -/
namespace Go.Proofs.Ytpblhonnknmjjaa
open Go.RowKit
set_option linter.unusedVariables false
set_option linter.unusedSimpArgs false
attribute [local go_sem] Ext.cell

theorem pv_one {f g : Nat} {S : Nat → Prop} {w : World} {k n : Int} {s : ByteArray} {q : List Value} {t : PxT} (hwf : (PxT.mk k n s [t]).wf) (hg : S g) (hq : RowAt w g 0 q) (h : PV f S w q t) :
    PV (f + 1) S w [.int .i64 k, .int .i64 n, .string s, .slice (some ⟨g, 0, none⟩) 1 1] (.mk k n s [t]) :=
  ⟨_, 1, rfl, hwf, Nat.le_refl _, by omega, fun _ => ⟨g, 0, rfl, hg, fun i c hc => by
    match i, hc with
    | 0, hc =>
      obtain rfl : t = c := by simpa [PxT.kids] using hc
      exact ⟨q, by simpa using hq, h⟩
    | i + 1, hc => simp [PxT.kids] at hc⟩⟩
theorem row_pre {w : World} {b o : Nat} {r s : List Value} (h : RowAt w b o (r ++ s)) : RowAt w b o r := fun j c hc => h j c (by rw [List.getElem?_append_left (List.getElem?_eq_some_iff.1 hc).1]; exact hc)
theorem row_suf {w : World} {b o n : Nat} {r s : List Value} (h : RowAt w b o (r ++ s)) (hn : r.length = n) : RowAt w b (o + n) s := fun j c hc => by
  have := h (n + j) c (by rw [List.getElem?_append_right (by omega), show n + j - r.length = j by omega]; exact hc)
  rwa [Nat.add_assoc]
theorem pv_two {f g : Nat} {S : Nat → Prop} {w : World} {k n : Int} {s : ByteArray} {q r : List Value} {t u : PxT} (hwf : (PxT.mk k n s [t, u]).wf) (hg : S g) (hq : RowAt w g 0 (q ++ r)) (h : PV f S w q t) (h' : PV f S w r u) :
    PV (f + 1) S w [.int .i64 k, .int .i64 n, .string s, .slice (some ⟨g, 0, none⟩) 2 2] (.mk k n s [t, u]) :=
  ⟨_, 2, rfl, hwf, Nat.le_refl _, by omega, fun _ => ⟨g, 0, rfl, hg, fun i c hc => by
    match i, hc with
    | 0, hc =>
      obtain rfl : t = c := by simpa [PxT.kids] using hc
      exact ⟨q, by simpa using row_pre hq, h⟩
    | 1, hc =>
      obtain rfl : u = c := by simpa [PxT.kids] using hc
      exact ⟨r, by simpa using row_suf hq h.len, h'⟩
    | i + 2, hc => simp [PxT.kids] at hc⟩⟩
theorem up_ways {s : ByteArray} {k : Nat} : (upHead (fromB s k) = true ∧ ∃ h : k < s.size, decide ((k : Int) < (s.size : Int)) = true ∧ decide (65 ≤ (s[k].toNat : Int)) = true ∧ decide ((s[k].toNat : Int) ≤ 90) = true) ∨
    (upHead (fromB s k) = false ∧ (decide ((k : Int) < (s.size : Int)) = false ∨ ∃ h : k < s.size, decide ((k : Int) < (s.size : Int)) = true ∧ (decide (65 ≤ (s[k].toNat : Int)) = false ∨ (decide (65 ≤ (s[k].toNat : Int)) = true ∧ decide ((s[k].toNat : Int) ≤ 90) = false)))) := by
  by_cases h : k < s.size
  · rw [fromB_cons h]
    have d0 : decide ((k : Int) < (s.size : Int)) = true := decide_eq_true (by omega)
    by_cases h1 : 65 ≤ (s[k].toNat : Int)
    · by_cases h2 : (s[k].toNat : Int) ≤ 90
      · exact .inl ⟨by simp [upHead]; omega, h, d0, decide_eq_true h1, decide_eq_true h2⟩
      · exact .inr ⟨by simp [upHead]; omega, .inr ⟨h, d0, .inr ⟨decide_eq_true h1, decide_eq_false h2⟩⟩⟩
    · exact .inr ⟨by simp [upHead]; omega, .inr ⟨h, d0, .inl (decide_eq_false h1)⟩⟩
  · exact .inr ⟨by rw [fromB_nil (by omega)]; rfl, .inl (decide_eq_false (by omega))⟩
set_option maxRecDepth 100000 in
set_option maxHeartbeats 16000000 in
theorem l21Pair_c (s : ByteArray) (f k b : Nat) (deep : Int) (hs : s.size ≤ 1048576) (hk : k < s.size) (hq : s[k] = 40) (w : World) (R : RdS w b s k false)
    (hR : ∀ (p : Nat) (bad : Bool) (W : World), p ≤ s.size + 1 → RdS W b s p bad → Calls Try.prog 32 #[.pointer (some ⟨b, 0, none⟩), .int .i64 deep] W (RdPost b s (if bad then none else readS f (fromB s p)) (2 * f + 1) W)) :
    Calls Try.prog 61 #[.pointer (some ⟨b, 0, none⟩), .int .i64 deep] w (RdPost b s (readIn (readS f) (fromB s (k + 1))) (2 * f + 3) w) := by
  have hbl := R.lt
  have h40 : isAt (⟨#[40]⟩ : ByteArray).data.toList (fromB s k) = true := by
    rw [fromB_cons hk, hq]
    show isAt [40] (40 :: _) = true
    rw [isAt_one]; rfl
  replace hR := Lib.hid hR
  obtain ⟨k1, hk1⟩ : ∃ x, x = k + 1 := ⟨_, rfl⟩
  have hk1s : k1 ≤ s.size := by omega
  rw [← hk1]
  go_enter Try.func61, Try.ntmps61
  go_upto_region 1 with fail
  have E : RowAt (w.alloc (.cells #[.int .i64 0, .int .i64 0, .string ⟨#[]⟩, .slice none 0 0] 63)) (w.heap.size) 0 [.int .i64 0, .int .i64 0, .string ⟨#[]⟩, .slice none 0 0] := RowAt.box w #[.int .i64 0, .int .i64 0, .string ⟨#[]⟩, .slice none 0 0] 63
  have EW : Wr (w.alloc (.cells #[.int .i64 0, .int .i64 0, .string ⟨#[]⟩, .slice none 0 0] 63)) (w.heap.size) 0 4 := Wr.box w #[.int .i64 0, .int .i64 0, .string ⟨#[]⟩, .slice none 0 0] 63
  have hw : Below w.heap.size w (w.alloc (.cells #[.int .i64 0, .int .i64 0, .string ⟨#[]⟩, .slice none 0 0] 63)) := by go_grown
  generalize (w.alloc (.cells #[.int .i64 0, .int .i64 0, .string ⟨#[]⟩, .slice none 0 0] 63)) = w0 at *
  have hsE := World.block_lt_of_cell? _ _ E.box4.1; dsimp only at hsE
  have R0 := R.below hw
  have F0 : RdF b w w0 := RdF.of hw (by omega)
  have ek : ∀ W, RdF b w0 W → RowAt W w.heap.size 0 [.int .i64 0, .int .i64 0, .string ⟨#[]⟩, .slice none 0 0] ∧ Wr W w.heap.size 0 4 := fun W D => ⟨E.kept D.kept (by omega), EW.kept D.kept (by omega)⟩
  replace ek := Lib.hid ek
  clear E EW
  go_upto_region 2 with (go_at_call 82; (with_reducible refine (l21Take_c s ⟨#[40]⟩ k b false hs (by decide) (by decide) (by omega) _ R0).mono ?_); rintro e w1 ⟨rfl, R1, F1⟩)
  rw [h40] at R1
  replace R1 : RdS w1 b s k1 false := by rw [hk1]; exact R1
  replace hk1 := Lib.hid hk1; replace h40 := Lib.hid h40
  clear R0
  have hend : ∀ W (t : PxT) (a : Option Addr) (c p : Nat) (bad : Bool), RdF b w0 W → RdS W b s p bad → p ≤ s.size + 1 → PV (2 * f + 3) (fun g => w.heap.size < g) W [.int .i64 t.kind, .int .i64 t.n, .string t.s, .slice a t.kids.length c] t → Ends s (readIn (readS f) (fromB s k1)) t p bad →
      RdPost b s (readIn (readS f) (fromB s k1)) (2 * f + 3) w (.returned (.agg #[.int .i64 t.kind, .int .i64 t.n, .string t.s, .slice a t.kids.length c])) (put4 W w.heap.size (.int .i64 t.kind) (.int .i64 t.n) (.string t.s) (.slice a t.kids.length c)) :=
    fun W t a c p bad hF hR hp hP hE => RdPost.fin (by omega) hR (F0.trans hF) hp hP hE
  replace hend := Lib.hid hend
  go_upto_if 15 with (go_at_call 83; (with_reducible refine (l21Is_c s ⟨#[41]⟩ k1 b false hs (by decide) (by decide) (by omega) _ R1).mono ?_); rintro e w2 ⟨rfl, R2, F2⟩)
  have F02 := F1.trans F2
  cases h41 : isAt (⟨#[41]⟩ : ByteArray).data.toList (fromB s k1)
  · have h41' := h41
    replace h41' := Lib.hid h41'
    go_upto_region 5 with fail
    clear h41
    go_cut [59] (fun sx wx => sx = .bool (upHead (fromB s k1)) ∧ RdS wx b s k1 false ∧ RdF b w0 wx)
    case first =>
      obtain ⟨r_0, r_1, r_2⟩ := R2.row.box3
      have hbl2 := R2.lt
      rcases up_ways (s := s) (k := k1) with ⟨hu, hlt, e1, e2, e3⟩ | ⟨hu, e1 | ⟨hlt, e1, e2 | ⟨e2, e3⟩⟩⟩
      all_goals
        replace hu := Lib.hid hu
        (refine wp_region_ext_lit (by kernel_rfl) (by kernel_rfl) ?_; (repeat (any_goals (first | go_big_quiet_step (fail) | quiet_step (fail) | (refine wpQuiet_step (fun K hK => ?_); go_simp; split <;> (refine hK _ ?_; clear hK K))))); all_goals (refine wpQuiet_nil ?_; rintro w1 ⟨⟨_, hb1⟩, rfl⟩))
        all_goals go_wp2_with fail
        all_goals (go_meet; refine ⟨?_, R2.below hb1, F02.trans (RdF.of hb1 (by omega))⟩; first | (rw [hu.out]; done) | (rw [hu.out, e3]; done) | (rw [hu.out]; rfl) | (exfalso; simp at e1; omega))
    obtain ⟨w3, hw3⟩ : ∃ W, W = wc := ⟨_, rfl⟩
    subst hw3
    obtain ⟨rfl, R3, F3⟩ := hcut
    clear R2 F02 F2 F1 R1
    have hSec : ∀ W, RdS W b s k1 false → RdF b w0 W → True := fun _ _ _ => trivial
    clear hSec
    cases hu : upHead (fromB s k1)
    · have htwo := readIn_two (rd := readS f) h41'.out (.inl hu)
      replace htwo := Lib.hid htwo
      go_upto_region 14 with fail
      clear hu
      have RB := R3
      have FB := F3
      go_upto_region 15 with (go_at_call 32; (with_reducible refine (hR.out k1 false _ (by omega) RB).mono ?_); rintro e wA ⟨ta, xa, ca, pA, badA, rfl, PA, RA, FA, hpA, hmA⟩)
      obtain ⟨wB, hwB⟩ : ∃ W, W = wA.alloc (.cells #[.int .i64 ta.kind, .int .i64 ta.n, .string ta.s, .slice xa ta.kids.length ca] 63) := ⟨_, rfl⟩
      rw [← hwB]
      have hbB : Below wA.heap.size wA wB := by rw [hwB]; go_grown
      have A0 : RowAt wB wA.heap.size 0 [.int .i64 ta.kind, .int .i64 ta.n, .string ta.s, .slice xa ta.kids.length ca] := by rw [hwB]; exact RowAt.box wA #[_, _, _, _] _
      obtain ⟨bA, hbA⟩ : ∃ x, x = wA.heap.size := ⟨_, rfl⟩
      rw [← hbA] at A0 ⊢
      have hbA2 : w0.heap.size ≤ bA := by have := FB.size; have := FA.size; omega
      have hmA : Ends s (readS f (fromB s k1)) ta pA badA := by have h := hmA; rw [if_neg (by decide)] at h; exact h
      have RB2 := RA.below hbB
      have hbb : b ≤ wA.heap.size := by have := FA.size; have := RA.lt; omega
      have FB2 := (FB.trans FA).trans (RdF.of hbB hbb)
      have PA2 : PV (2 * f + 1) (fun g => w0.heap.size ≤ g) wB [.int .i64 ta.kind, .int .i64 ta.n, .string ta.s, .slice xa ta.kids.length ca] ta := (PA.below hbB).to (fun _ _ _ => rfl) fun g hg _ => by have := FB.size; omega
      replace hbA := Lib.hid hbA; replace hmA := Lib.hid hmA; replace PA2 := Lib.hid PA2
      clear hwB hbB PA RA FA
      go_upto_if 93 with (go_at_call 83; (with_reducible refine (l21Is_c s ⟨#[32, 58, 58, 32]⟩ pA b badA hs (by decide) (by decide) (by omega) _ RB2).mono ?_); rintro e wC ⟨rfl, RC, FC⟩)
      have FB3 := FB2.trans FC
      have A1 := A0.kept FC.kept (by omega)
      cases hcc : isAt (⟨#[32, 58, 58, 32]⟩ : ByteArray).data.toList (fromB s pA)
      · go_upto_region 19 with (go_at_call 82; (with_reducible refine (l21Take_c s ⟨#[44, 32]⟩ pA b badA hs (by decide) (by decide) (by omega) _ RC).mono ?_); rintro e wD ⟨rfl, RD, FD⟩)
        have hcc' := hcc
        replace RD : RdS wD b s (if isAt kComma (fromB s pA) then pA + 2 else pA) (if isAt kComma (fromB s pA) then badA else true) := RD
        replace hcc' := Lib.hid hcc'
        clear hcc
        obtain ⟨p2, hp2d⟩ : ∃ x, x = (if isAt kComma (fromB s pA) then pA + 2 else pA) := ⟨_, rfl⟩
        obtain ⟨bad2, hbad2⟩ : ∃ x, x = (if isAt kComma (fromB s pA) then badA else true) := ⟨_, rfl⟩
        rw [← hp2d, ← hbad2] at RD
        have hp2 : p2 ≤ s.size + 1 := by rw [hp2d]; cases hq : isAt kComma (fromB s pA) with
          | true => have := at_le (s := s) (k := pA) (t := ⟨#[44, 32]⟩) (by decide) hq; rw [if_pos rfl]; have h4 : (⟨#[44, 32]⟩ : ByteArray).size = 2 := rfl; omega
          | false => rw [if_neg (by decide)]; exact hpA
        have FB4 := FB3.trans FD
        have A2 := A1.kept FD.kept (by omega)
        have PA3 := (PA2.out.kept FC.kept (fun g hg e => by omega)).kept FD.kept (fun g hg e => by omega)
        replace hp2d := Lib.hid hp2d; replace hbad2 := Lib.hid hbad2; replace PA3 := Lib.hid PA3
        go_upto_region 20 with (go_at_call 32; (with_reducible refine (hR.out p2 bad2 _ hp2 RD).mono ?_); rintro e wE ⟨tb, xb, cb, pB, badB, rfl, PB, RE, FE, hpB, hmB⟩)
        obtain ⟨wF, hwF⟩ : ∃ W, W = wE.alloc (.cells #[.int .i64 tb.kind, .int .i64 tb.n, .string tb.s, .slice xb tb.kids.length cb] 63) := ⟨_, rfl⟩
        rw [← hwF]
        have hbF : Below wE.heap.size wE wF := by rw [hwF]; go_grown
        have B0 : RowAt wF wE.heap.size 0 [.int .i64 tb.kind, .int .i64 tb.n, .string tb.s, .slice xb tb.kids.length cb] := by rw [hwF]; exact RowAt.box wE #[_, _, _, _] _
        obtain ⟨bB, hbB⟩ : ∃ x, x = wE.heap.size := ⟨_, rfl⟩
        rw [← hbB] at B0 ⊢
        have hbE : b ≤ wE.heap.size := by have := RE.lt; omega
        have FB5 := (FB4.trans FE).trans (RdF.of hbF hbE)
        have RF := RE.below hbF
        have A3 := (A2.kept FE.kept (by omega)).below hbF
        have hmB' : Ends s (if bad2 then none else readS f (fromB s p2)) tb pB badB := hmB
        have hzD := FB4.size
        have PB2 : PV (2 * f + 1) (fun g => w0.heap.size ≤ g) wF [.int .i64 tb.kind, .int .i64 tb.n, .string tb.s, .slice xb tb.kids.length cb] tb := (PB.below hbF).to (fun _ _ _ => rfl) fun g hg _ => by omega
        have PA4 := (PA3.out.kept FE.kept (fun g hg e => by omega)).below hbF
        have hbB2 : w0.heap.size ≤ bB := by have := FE.size; omega
        replace hbB := Lib.hid hbB; replace hmB' := Lib.hid hmB'; replace PB2 := Lib.hid PB2; replace PA4 := Lib.hid PA4
        clear hwF hbF PB RE FE RD FD RB2 hmB A0 A1 A2 hzD
        go_upto_region 21 with (go_at_call 82; (with_reducible refine (l21Take_c s ⟨#[41]⟩ pB b badB hs (by decide) (by decide) (by omega) _ RF).mono ?_); rintro e wG ⟨rfl, RG, FG⟩)
        have RG2 : RdS wG b s (if q41 s pB then pB + 1 else pB) (if q41 s pB then badB else true) := RG
        obtain ⟨pF, hpF⟩ : ∃ x, x = (if q41 s pB then pB + 1 else pB) := ⟨_, rfl⟩
        obtain ⟨badF, hbadF⟩ : ∃ x, x = (if q41 s pB then badB else true) := ⟨_, rfl⟩
        rw [← hpF, ← hbadF] at RG2
        have hpFs : pF ≤ s.size + 1 := by
          rw [hpF]
          cases hq : q41 s pB with
          | true => have := q41_le hq; rw [if_pos rfl]; omega
          | false => rw [if_neg (by decide)]; exact hpB
        have hE : Ends s (readIn (readS f) (fromB s k1)) (tPair ta tb) pF badF := by
          rw [htwo.out, hpF, hbadF]
          exact ends_pair hmA.out hcc'.out (by rw [← hp2d.out, ← hbad2.out]; exact hmB'.out)
        have A4 := A3.kept FG.kept (by omega)
        have B4 := B0.kept FG.kept (by omega)
        have FB6 := FB5.trans FG
        have PA5 := PA4.out.kept FG.kept (fun g hg e => by omega)
        have PB5 := PB2.out.kept FG.kept (fun g hg e => by omega)
        obtain ⟨a_0, a_1, a_2, a_3⟩ := A4.box4
        obtain ⟨c_0, c_1, c_2, c_3⟩ := B4.box4
        have hsA4 := World.block_lt_of_cell? _ _ a_0; dsimp only at hsA4
        have hsB4 := World.block_lt_of_cell? _ _ c_0; dsimp only at hsB4
        replace hE := Lib.hid hE; replace hpF := Lib.hid hpF; replace hbadF := Lib.hid hbadF; replace PA5 := Lib.hid PA5; replace PB5 := Lib.hid PB5
        clear RG RF A3 B0 FB4 FB5
        go_upto_region 22 with fail
        obtain ⟨wH, hwH⟩ : ∃ W, W = wG.alloc (.cells #[.int .i64 ta.kind, .int .i64 ta.n, .string ta.s, .slice xa ta.kids.length ca, .int .i64 tb.kind, .int .i64 tb.n, .string tb.s, .slice xb tb.kids.length cb] 63) := ⟨_, rfl⟩
        obtain ⟨wI, hwI⟩ : ∃ W, W = wH.alloc (.cells #[.int .i64 5, .int .i64 0, .string ⟨#[]⟩, .slice (some ⟨wG.heap.size, 0, none⟩) 2 2] 63) := ⟨_, rfl⟩
        have hzH : wH.heap.size = wG.heap.size + 1 := by rw [hwH]; simp
        rw [← hwH, ← hwI, ← hzH]
        have hbH : Below wG.heap.size wG wH := by rw [hwH]; go_grown
        have hbI : Below wH.heap.size wH wI := by rw [hwI]; go_grown
        have L1 : RowAt wI wG.heap.size 0 ([.int .i64 ta.kind, .int .i64 ta.n, .string ta.s, .slice xa ta.kids.length ca] ++ [.int .i64 tb.kind, .int .i64 tb.n, .string tb.s, .slice xb tb.kids.length cb]) := RowAt.below (by rw [hwH]; exact RowAt.box wG #[.int .i64 ta.kind, .int .i64 ta.n, .string ta.s, .slice xa ta.kids.length ca, .int .i64 tb.kind, .int .i64 tb.n, .string tb.s, .slice xb tb.kids.length cb] _) hbI
        have X1 : RowAt wI wH.heap.size 0 [.int .i64 5, .int .i64 0, .string ⟨#[]⟩, .slice (some ⟨wG.heap.size, 0, none⟩) 2 2] := by rw [hwI]; exact RowAt.box wH #[_, _, _, _] _
        have hwf5 : (PxT.mk 5 0 ⟨#[]⟩ [ta, tb]).wf := wf0 (k := 5) (by omega) (by decide)
        have hwz : w.heap.size < w0.heap.size := hsE
        have hzG := FB6.size
        have PP := pv_two hwf5 (S := fun g => w.heap.size < g) (show w.heap.size < wG.heap.size by omega) L1 (((PA5.out.below hbH).below hbI).to (fun _ _ _ => rfl) (fun g hg _ => by omega)) (((PB5.out.below hbH).below hbI).to (fun _ _ _ => rfl) (fun g hg _ => by omega))
        have FI := (FB6.trans (RdF.of hbH (by have := RG2.lt; omega))).trans (RdF.of hbI (by have := RG2.lt; omega))
        have RI := (RG2.below hbH).below hbI
        obtain ⟨E3, EW3⟩ := ek.out _ FI
        obtain ⟨e_0, e_1, e_2, e_3⟩ := E3.box4
        have ef_0 := EW3.frz 0 (by omega); have ef_1 := EW3.frz 1 (by omega); have ef_2 := EW3.frz 2 (by omega); have ef_3 := EW3.frz 3 (by omega)
        obtain ⟨x_0, x_1, x_2, x_3⟩ := X1.box4
        have hsE3 := World.block_lt_of_cell? _ _ e_0; dsimp only at hsE3
        have hsX3 := World.block_lt_of_cell? _ _ x_0; dsimp only at hsX3
        have hzX : wG.heap.size + 1 ≤ wH.heap.size := by omega
        clear hwH hwI hzH hbH hbI L1 X1 a_0 a_1 a_2 a_3 c_0 c_1 c_2 c_3 A4 B4 hsA4 hsB4
        generalize wG.heap.size = gL at *
        generalize wH.heap.size = gX at *
        have n1 : ¬ gX = w.heap.size := by omega
        have n2 : ¬ w.heap.size = gX := by omega
        replace PP := Lib.hid PP
        have hfin := hend.out wI (.mk 5 0 ⟨#[]⟩ [ta, tb]) (some ⟨gL, 0, none⟩) 2 pF badF FI RI hpFs (PP.out.mono (by omega)) hE.out
        replace hfin := Lib.hid hfin
        go_wp2_with fail
        obtain ⟨p_0, p_1, p_2, p_3⟩ := (put4_cells (x := .int .i64 5) (y := .int .i64 0) (z := .string ⟨#[]⟩) (u := .slice (some ⟨gL, 0, none⟩) 2 2) E3 rfl).box4
        unfold put4 at p_0 p_1 p_2 p_3
        refine bodyPost_ret (v := .agg #[.int .i64 5, .int .i64 0, .string ⟨#[]⟩, .slice (some ⟨gL, 0, none⟩) 2 2]) (by simp [results, Try.results61, go_sem, p_0, p_1, p_2, p_3]) rfl ?_
        exact hfin.out
      · go_upto_region 19 with (go_at_call 82; (with_reducible refine (l21Take_c s ⟨#[32, 58, 58, 32]⟩ pA b badA hs (by decide) (by decide) (by omega) _ RC).mono ?_); rintro e wD ⟨rfl, RD, FD⟩)
        have hcc' := hcc
        rw [hcc] at RD
        replace RD : RdS wD b s (pA + 4) badA := RD
        replace hcc' := Lib.hid hcc'
        clear hcc
        obtain ⟨p2, hp2d⟩ : ∃ x, x = pA + 4 := ⟨_, rfl⟩
        obtain ⟨bad2, hbad2⟩ : ∃ x, x = badA := ⟨_, rfl⟩
        rw [← hp2d, ← hbad2] at RD
        have hp2 : p2 ≤ s.size + 1 := by have := at_le (t := ⟨#[32, 58, 58, 32]⟩) (by decide) hcc'.out; rw [hp2d]; show pA + 4 ≤ _; have h4 : (⟨#[32, 58, 58, 32]⟩ : ByteArray).size = 4 := rfl; omega
        have FB4 := FB3.trans FD
        have A2 := A1.kept FD.kept (by omega)
        have PA3 := (PA2.out.kept FC.kept (fun g hg e => by omega)).kept FD.kept (fun g hg e => by omega)
        replace hp2d := Lib.hid hp2d; replace hbad2 := Lib.hid hbad2; replace PA3 := Lib.hid PA3
        go_upto_region 20 with (go_at_call 32; (with_reducible refine (hR.out p2 bad2 _ hp2 RD).mono ?_); rintro e wE ⟨tb, xb, cb, pB, badB, rfl, PB, RE, FE, hpB, hmB⟩)
        obtain ⟨wF, hwF⟩ : ∃ W, W = wE.alloc (.cells #[.int .i64 tb.kind, .int .i64 tb.n, .string tb.s, .slice xb tb.kids.length cb] 63) := ⟨_, rfl⟩
        rw [← hwF]
        have hbF : Below wE.heap.size wE wF := by rw [hwF]; go_grown
        have B0 : RowAt wF wE.heap.size 0 [.int .i64 tb.kind, .int .i64 tb.n, .string tb.s, .slice xb tb.kids.length cb] := by rw [hwF]; exact RowAt.box wE #[_, _, _, _] _
        obtain ⟨bB, hbB⟩ : ∃ x, x = wE.heap.size := ⟨_, rfl⟩
        rw [← hbB] at B0 ⊢
        have hbE : b ≤ wE.heap.size := by have := RE.lt; omega
        have FB5 := (FB4.trans FE).trans (RdF.of hbF hbE)
        have RF := RE.below hbF
        have A3 := (A2.kept FE.kept (by omega)).below hbF
        have hmB' : Ends s (if bad2 then none else readS f (fromB s p2)) tb pB badB := hmB
        have hzD := FB4.size
        have PB2 : PV (2 * f + 1) (fun g => w0.heap.size ≤ g) wF [.int .i64 tb.kind, .int .i64 tb.n, .string tb.s, .slice xb tb.kids.length cb] tb := (PB.below hbF).to (fun _ _ _ => rfl) fun g hg _ => by omega
        have PA4 := (PA3.out.kept FE.kept (fun g hg e => by omega)).below hbF
        have hbB2 : w0.heap.size ≤ bB := by have := FE.size; omega
        replace hbB := Lib.hid hbB; replace hmB' := Lib.hid hmB'; replace PB2 := Lib.hid PB2; replace PA4 := Lib.hid PA4
        clear hwF hbF PB RE FE RD FD RB2 hmB A0 A1 A2 hzD
        go_upto_region 21 with (go_at_call 82; (with_reducible refine (l21Take_c s ⟨#[41]⟩ pB b badB hs (by decide) (by decide) (by omega) _ RF).mono ?_); rintro e wG ⟨rfl, RG, FG⟩)
        have RG2 : RdS wG b s (if q41 s pB then pB + 1 else pB) (if q41 s pB then badB else true) := RG
        obtain ⟨pF, hpF⟩ : ∃ x, x = (if q41 s pB then pB + 1 else pB) := ⟨_, rfl⟩
        obtain ⟨badF, hbadF⟩ : ∃ x, x = (if q41 s pB then badB else true) := ⟨_, rfl⟩
        rw [← hpF, ← hbadF] at RG2
        have hpFs : pF ≤ s.size + 1 := by
          rw [hpF]
          cases hq : q41 s pB with
          | true => have := q41_le hq; rw [if_pos rfl]; omega
          | false => rw [if_neg (by decide)]; exact hpB
        have hE : Ends s (readIn (readS f) (fromB s k1)) (tCons ta tb) pF badF := by
          rw [htwo.out, hpF, hbadF]
          exact ends_cons hmA.out hcc'.out (by rw [← hp2d.out, ← hbad2.out]; exact hmB'.out)
        have A4 := A3.kept FG.kept (by omega)
        have B4 := B0.kept FG.kept (by omega)
        have FB6 := FB5.trans FG
        have PA5 := PA4.out.kept FG.kept (fun g hg e => by omega)
        have PB5 := PB2.out.kept FG.kept (fun g hg e => by omega)
        obtain ⟨a_0, a_1, a_2, a_3⟩ := A4.box4
        obtain ⟨c_0, c_1, c_2, c_3⟩ := B4.box4
        have hsA4 := World.block_lt_of_cell? _ _ a_0; dsimp only at hsA4
        have hsB4 := World.block_lt_of_cell? _ _ c_0; dsimp only at hsB4
        replace hE := Lib.hid hE; replace hpF := Lib.hid hpF; replace hbadF := Lib.hid hbadF; replace PA5 := Lib.hid PA5; replace PB5 := Lib.hid PB5
        clear RG RF A3 B0 FB4 FB5
        go_upto_region 22 with fail
        obtain ⟨wH, hwH⟩ : ∃ W, W = wG.alloc (.cells #[.int .i64 ta.kind, .int .i64 ta.n, .string ta.s, .slice xa ta.kids.length ca, .int .i64 tb.kind, .int .i64 tb.n, .string tb.s, .slice xb tb.kids.length cb] 63) := ⟨_, rfl⟩
        obtain ⟨wI, hwI⟩ : ∃ W, W = wH.alloc (.cells #[.int .i64 5, .int .i64 0, .string ⟨#[]⟩, .slice (some ⟨wG.heap.size, 0, none⟩) 2 2] 63) := ⟨_, rfl⟩
        have hzH : wH.heap.size = wG.heap.size + 1 := by rw [hwH]; simp
        rw [← hwH, ← hwI, ← hzH]
        have hbH : Below wG.heap.size wG wH := by rw [hwH]; go_grown
        have hbI : Below wH.heap.size wH wI := by rw [hwI]; go_grown
        have L1 : RowAt wI wG.heap.size 0 ([.int .i64 ta.kind, .int .i64 ta.n, .string ta.s, .slice xa ta.kids.length ca] ++ [.int .i64 tb.kind, .int .i64 tb.n, .string tb.s, .slice xb tb.kids.length cb]) := RowAt.below (by rw [hwH]; exact RowAt.box wG #[.int .i64 ta.kind, .int .i64 ta.n, .string ta.s, .slice xa ta.kids.length ca, .int .i64 tb.kind, .int .i64 tb.n, .string tb.s, .slice xb tb.kids.length cb] _) hbI
        have X1 : RowAt wI wH.heap.size 0 [.int .i64 5, .int .i64 0, .string ⟨#[]⟩, .slice (some ⟨wG.heap.size, 0, none⟩) 2 2] := by rw [hwI]; exact RowAt.box wH #[_, _, _, _] _
        have hwf5 : (PxT.mk 5 0 ⟨#[]⟩ [ta, tb]).wf := wf0 (k := 5) (by omega) (by decide)
        have hwz : w.heap.size < w0.heap.size := hsE
        have hzG := FB6.size
        have PP := pv_two hwf5 (S := fun g => w.heap.size < g) (show w.heap.size < wG.heap.size by omega) L1 (((PA5.out.below hbH).below hbI).to (fun _ _ _ => rfl) (fun g hg _ => by omega)) (((PB5.out.below hbH).below hbI).to (fun _ _ _ => rfl) (fun g hg _ => by omega))
        have FI := (FB6.trans (RdF.of hbH (by have := RG2.lt; omega))).trans (RdF.of hbI (by have := RG2.lt; omega))
        have RI := (RG2.below hbH).below hbI
        obtain ⟨E3, EW3⟩ := ek.out _ FI
        obtain ⟨e_0, e_1, e_2, e_3⟩ := E3.box4
        have ef_0 := EW3.frz 0 (by omega); have ef_1 := EW3.frz 1 (by omega); have ef_2 := EW3.frz 2 (by omega); have ef_3 := EW3.frz 3 (by omega)
        obtain ⟨x_0, x_1, x_2, x_3⟩ := X1.box4
        have hsE3 := World.block_lt_of_cell? _ _ e_0; dsimp only at hsE3
        have hsX3 := World.block_lt_of_cell? _ _ x_0; dsimp only at hsX3
        have hzX : wG.heap.size + 1 ≤ wH.heap.size := by omega
        clear hwH hwI hzH hbH hbI L1 X1 a_0 a_1 a_2 a_3 c_0 c_1 c_2 c_3 A4 B4 hsA4 hsB4
        generalize wG.heap.size = gL at *
        generalize wH.heap.size = gX at *
        have n1 : ¬ gX = w.heap.size := by omega
        have n2 : ¬ w.heap.size = gX := by omega
        replace PP := Lib.hid PP
        go_wp2_with fail
        obtain ⟨wJ, hwJ⟩ : ∃ W, W = put4 wI w.heap.size (.int .i64 4) (.int .i64 0) (.string ⟨#[58, 58]⟩) (.slice (some ⟨wI.heap.size, 0, none⟩) 1 1) := ⟨_, rfl⟩
        have EJ : RowAt wJ w.heap.size 0 [.int .i64 4, .int .i64 0, .string ⟨#[58, 58]⟩, .slice (some ⟨wI.heap.size, 0, none⟩) 1 1] := by rw [hwJ]; exact put4_cells E3 rfl
        have hfin : RdPost b s (readIn (readS f) (fromB s k1)) (2 * f + 3) w (.returned (.agg #[.int .i64 4, .int .i64 0, .string ⟨#[58, 58]⟩, .slice (some ⟨wI.heap.size, 0, none⟩) 1 1])) (wJ.alloc (.cells #[.int .i64 5, .int .i64 0, .string ⟨#[]⟩, .slice (some ⟨gL, 0, none⟩) 2 2] 63)) := by
          have kJ : Kept (· = w.heap.size) wI wJ := by rw [hwJ]; exact put4_kept _ _ _ _ _ _
          have hzJ : wJ.heap.size = wI.heap.size := by rw [hwJ]; simp [put4, World.setCell]
          have bJ : Below b wI wJ := by
            rw [hwJ]
            exact ((((Below.refl b wI).setCell (p := ⟨w.heap.size, 0, none⟩) (by show b ≤ w.heap.size; omega) _).setCell (p := ⟨w.heap.size, 1, none⟩) (by show b ≤ w.heap.size; omega) _).setCell (p := ⟨w.heap.size, 2, none⟩) (by show b ≤ w.heap.size; omega) _).setCell (p := ⟨w.heap.size, 3, none⟩) (by show b ≤ w.heap.size; omega) _
          have hbK : Below wJ.heap.size wJ (wJ.alloc (.cells #[.int .i64 5, .int .i64 0, .string ⟨#[]⟩, .slice (some ⟨gL, 0, none⟩) 2 2] 63)) := by go_grown
          have RJ := (RI.kept kJ (by omega)).below hbK
          have FF := F0.trans FI
          have FJ : RdF b w wJ := ⟨fun x h1 h2 => (kJ x (Nat.lt_of_lt_of_le h1 FF.size) (by omega)).trans (FF.kept x h1 h2), FF.below.trans bJ⟩
          have FK := FJ.trans (RdF.of hbK (by have := hsE3; omega))
          have hwf4 : (PxT.mk 4 0 ⟨#[58, 58]⟩ [.mk 5 0 ⟨#[]⟩ [ta, tb]]).wf := wf0 (k := 4) (by omega) (by decide)
          have PK := pv_one hwf4 (S := fun g => w.heap.size < g) (show w.heap.size < wI.heap.size by omega) (hzJ ▸ RowAt.box wJ #[.int .i64 5, .int .i64 0, .string ⟨#[]⟩, .slice (some ⟨gL, 0, none⟩) 2 2] _) ((PP.out.kept kJ (fun g hg e => by omega)).below hbK)
          exact ⟨.mk 4 0 ⟨#[58, 58]⟩ [.mk 5 0 ⟨#[]⟩ [ta, tb]], some ⟨wI.heap.size, 0, none⟩, 1, pF, badF, rfl, PK.to (fun _ _ _ => rfl) (fun g hg _ => by omega), RJ, FK, hpFs, hE.out⟩
        unfold put4 at hwJ
        rw [← hwJ]
        obtain ⟨p_0, p_1, p_2, p_3⟩ := EJ.box4
        have hsEJ := World.block_lt_of_cell? _ _ p_0; dsimp only at hsEJ
        clear hwJ e_0 e_1 e_2 e_3 ef_0 ef_1 ef_2 ef_3
        refine bodyPost_ret (v := .agg #[.int .i64 4, .int .i64 0, .string ⟨#[58, 58]⟩, .slice (some ⟨wI.heap.size, 0, none⟩) 1 1]) (by simp [results, Try.results61, go_sem, p_0, p_1, p_2, p_3, hsEJ]) rfl ?_
        exact hfin
    · have hu' := hu
      replace hu' := Lib.hid hu'
      have hltk : k1 < s.size := by
        rcases Nat.lt_or_ge k1 s.size with h | h
        · exact h
        · rw [fromB_nil h] at hu; cases hu
      obtain ⟨r_0, r_1, r_2⟩ := R3.row.box3
      have hbl3 := R3.lt
      go_upto_region 8 with (go_at_call 63; (with_reducible refine (l21Word_c s k1 b false hs (by omega) _ R3).mono ?_); rintro e w4 ⟨rfl, R4, F4⟩)
      clear hu
      obtain ⟨k2, hk2⟩ : ∃ x, x = k1 + (wOf (fromB s k1)).length := ⟨_, rfl⟩
      have hk2s := wOf_le s (k := k1) (by omega)
      rw [← hk2] at R4 hk2s
      have hrest := wRest_at s k1
      rw [← hk2] at hrest
      have F04 := F3.trans F4
      replace hk2 := Lib.hid hk2; replace hrest := Lib.hid hrest
      go_cut [72] (fun sx wx => sx = .bool (argB (fromB s k1)) ∧ RdS wx b s k2 false ∧ RdF b w0 wx)
      case first =>
        cases h32 : isAt (⟨#[32]⟩ : ByteArray).data.toList (fromB s k2)
        · go_wp2_with (go_at_call 83; (with_reducible refine (l21Is_c s ⟨#[32]⟩ k2 b false hs (by decide) (by decide) (by omega) _ R4).mono ?_); rintro e w5 ⟨rfl, R5, F5⟩)
          go_meet
          exact ⟨by unfold argB; rw [hrest.out, show isAt [32] (fromB s k2) = false from h32]; rfl, R5, F04.trans F5⟩
        · cases hcc : isAt (⟨#[32, 58, 58, 32]⟩ : ByteArray).data.toList (fromB s k2)
          all_goals
            go_wp2_with (first
              | (go_at_call 83; (with_reducible refine (l21Is_c s ⟨#[32]⟩ k2 b false hs (by decide) (by decide) (by omega) _ R4).mono ?_); rintro e w5 ⟨rfl, R5, F5⟩)
              | (go_at_call 83; (with_reducible refine (l21Is_c s ⟨#[32, 58, 58, 32]⟩ k2 b false hs (by decide) (by decide) (by omega) _ R5).mono ?_); rintro e w6 ⟨rfl, R6, F6⟩))
            go_meet
            exact ⟨by unfold argB; rw [hrest.out, show isAt [32] (fromB s k2) = true from h32, show isAt kColons (fromB s k2) = _ from hcc]; rfl, R6, (F04.trans F5).trans F6⟩
      obtain ⟨w5, hw5⟩ : ∃ W, W = wc := ⟨_, rfl⟩
      subst hw5
      obtain ⟨rfl, R5, F5⟩ := hcut
      clear R4 F4 F04 R3 F3
      cases ha : argB (fromB s k1)
      · have htwo := readIn_two (rd := readS f) h41'.out (.inr ha)
        replace htwo := Lib.hid htwo
        obtain ⟨r_0, r_1, r_2⟩ := R5.row.box3
        have f_1 := R5.wr.frz 1 (by omega)
        have hbl5 := R5.lt
        go_upto_region 14 with fail
        clear ha
        have RB := R5.setAt (k := k1)
        have FB := F5.set 1 (.int .i64 (k1 : Int))
        obtain ⟨w6, hw6⟩ : ∃ W, W = w5.setCell ⟨b, 1, none⟩ (.int .i64 (k1 : Int)) := ⟨_, rfl⟩
        rw [← hw6] at RB FB ⊢
        clear hw6 r_0 r_1 r_2 f_1 R5 F5
        go_upto_region 15 with (go_at_call 32; (with_reducible refine (hR.out k1 false _ (by omega) RB).mono ?_); rintro e wA ⟨ta, xa, ca, pA, badA, rfl, PA, RA, FA, hpA, hmA⟩)
        obtain ⟨wB, hwB⟩ : ∃ W, W = wA.alloc (.cells #[.int .i64 ta.kind, .int .i64 ta.n, .string ta.s, .slice xa ta.kids.length ca] 63) := ⟨_, rfl⟩
        rw [← hwB]
        have hbB : Below wA.heap.size wA wB := by rw [hwB]; go_grown
        have A0 : RowAt wB wA.heap.size 0 [.int .i64 ta.kind, .int .i64 ta.n, .string ta.s, .slice xa ta.kids.length ca] := by rw [hwB]; exact RowAt.box wA #[_, _, _, _] _
        obtain ⟨bA, hbA⟩ : ∃ x, x = wA.heap.size := ⟨_, rfl⟩
        rw [← hbA] at A0 ⊢
        have hbA2 : w0.heap.size ≤ bA := by have := FB.size; have := FA.size; omega
        have hmA : Ends s (readS f (fromB s k1)) ta pA badA := by have h := hmA; rw [if_neg (by decide)] at h; exact h
        have RB2 := RA.below hbB
        have hbb : b ≤ wA.heap.size := by have := FA.size; have := RA.lt; omega
        have FB2 := (FB.trans FA).trans (RdF.of hbB hbb)
        have PA2 : PV (2 * f + 1) (fun g => w0.heap.size ≤ g) wB [.int .i64 ta.kind, .int .i64 ta.n, .string ta.s, .slice xa ta.kids.length ca] ta := (PA.below hbB).to (fun _ _ _ => rfl) fun g hg _ => by have := FB.size; omega
        replace hbA := Lib.hid hbA; replace hmA := Lib.hid hmA; replace PA2 := Lib.hid PA2
        clear hwB hbB PA RA FA
        go_upto_if 93 with (go_at_call 83; (with_reducible refine (l21Is_c s ⟨#[32, 58, 58, 32]⟩ pA b badA hs (by decide) (by decide) (by omega) _ RB2).mono ?_); rintro e wC ⟨rfl, RC, FC⟩)
        have FB3 := FB2.trans FC
        have A1 := A0.kept FC.kept (by omega)
        cases hcc : isAt (⟨#[32, 58, 58, 32]⟩ : ByteArray).data.toList (fromB s pA)
        · go_upto_region 19 with (go_at_call 82; (with_reducible refine (l21Take_c s ⟨#[44, 32]⟩ pA b badA hs (by decide) (by decide) (by omega) _ RC).mono ?_); rintro e wD ⟨rfl, RD, FD⟩)
          have hcc' := hcc
          replace RD : RdS wD b s (if isAt kComma (fromB s pA) then pA + 2 else pA) (if isAt kComma (fromB s pA) then badA else true) := RD
          replace hcc' := Lib.hid hcc'
          clear hcc
          obtain ⟨p2, hp2d⟩ : ∃ x, x = (if isAt kComma (fromB s pA) then pA + 2 else pA) := ⟨_, rfl⟩
          obtain ⟨bad2, hbad2⟩ : ∃ x, x = (if isAt kComma (fromB s pA) then badA else true) := ⟨_, rfl⟩
          rw [← hp2d, ← hbad2] at RD
          have hp2 : p2 ≤ s.size + 1 := by rw [hp2d]; cases hq : isAt kComma (fromB s pA) with
            | true => have := at_le (s := s) (k := pA) (t := ⟨#[44, 32]⟩) (by decide) hq; rw [if_pos rfl]; have h4 : (⟨#[44, 32]⟩ : ByteArray).size = 2 := rfl; omega
            | false => rw [if_neg (by decide)]; exact hpA
          have FB4 := FB3.trans FD
          have A2 := A1.kept FD.kept (by omega)
          have PA3 := (PA2.out.kept FC.kept (fun g hg e => by omega)).kept FD.kept (fun g hg e => by omega)
          replace hp2d := Lib.hid hp2d; replace hbad2 := Lib.hid hbad2; replace PA3 := Lib.hid PA3
          go_upto_region 20 with (go_at_call 32; (with_reducible refine (hR.out p2 bad2 _ hp2 RD).mono ?_); rintro e wE ⟨tb, xb, cb, pB, badB, rfl, PB, RE, FE, hpB, hmB⟩)
          obtain ⟨wF, hwF⟩ : ∃ W, W = wE.alloc (.cells #[.int .i64 tb.kind, .int .i64 tb.n, .string tb.s, .slice xb tb.kids.length cb] 63) := ⟨_, rfl⟩
          rw [← hwF]
          have hbF : Below wE.heap.size wE wF := by rw [hwF]; go_grown
          have B0 : RowAt wF wE.heap.size 0 [.int .i64 tb.kind, .int .i64 tb.n, .string tb.s, .slice xb tb.kids.length cb] := by rw [hwF]; exact RowAt.box wE #[_, _, _, _] _
          obtain ⟨bB, hbB⟩ : ∃ x, x = wE.heap.size := ⟨_, rfl⟩
          rw [← hbB] at B0 ⊢
          have hbE : b ≤ wE.heap.size := by have := RE.lt; omega
          have FB5 := (FB4.trans FE).trans (RdF.of hbF hbE)
          have RF := RE.below hbF
          have A3 := (A2.kept FE.kept (by omega)).below hbF
          have hmB' : Ends s (if bad2 then none else readS f (fromB s p2)) tb pB badB := hmB
          have hzD := FB4.size
          have PB2 : PV (2 * f + 1) (fun g => w0.heap.size ≤ g) wF [.int .i64 tb.kind, .int .i64 tb.n, .string tb.s, .slice xb tb.kids.length cb] tb := (PB.below hbF).to (fun _ _ _ => rfl) fun g hg _ => by omega
          have PA4 := (PA3.out.kept FE.kept (fun g hg e => by omega)).below hbF
          have hbB2 : w0.heap.size ≤ bB := by have := FE.size; omega
          replace hbB := Lib.hid hbB; replace hmB' := Lib.hid hmB'; replace PB2 := Lib.hid PB2; replace PA4 := Lib.hid PA4
          clear hwF hbF PB RE FE RD FD RB2 hmB A0 A1 A2 hzD
          go_upto_region 21 with (go_at_call 82; (with_reducible refine (l21Take_c s ⟨#[41]⟩ pB b badB hs (by decide) (by decide) (by omega) _ RF).mono ?_); rintro e wG ⟨rfl, RG, FG⟩)
          have RG2 : RdS wG b s (if q41 s pB then pB + 1 else pB) (if q41 s pB then badB else true) := RG
          obtain ⟨pF, hpF⟩ : ∃ x, x = (if q41 s pB then pB + 1 else pB) := ⟨_, rfl⟩
          obtain ⟨badF, hbadF⟩ : ∃ x, x = (if q41 s pB then badB else true) := ⟨_, rfl⟩
          rw [← hpF, ← hbadF] at RG2
          have hpFs : pF ≤ s.size + 1 := by
            rw [hpF]
            cases hq : q41 s pB with
            | true => have := q41_le hq; rw [if_pos rfl]; omega
            | false => rw [if_neg (by decide)]; exact hpB
          have hE : Ends s (readIn (readS f) (fromB s k1)) (tPair ta tb) pF badF := by
            rw [htwo.out, hpF, hbadF]
            exact ends_pair hmA.out hcc'.out (by rw [← hp2d.out, ← hbad2.out]; exact hmB'.out)
          have A4 := A3.kept FG.kept (by omega)
          have B4 := B0.kept FG.kept (by omega)
          have FB6 := FB5.trans FG
          have PA5 := PA4.out.kept FG.kept (fun g hg e => by omega)
          have PB5 := PB2.out.kept FG.kept (fun g hg e => by omega)
          obtain ⟨a_0, a_1, a_2, a_3⟩ := A4.box4
          obtain ⟨c_0, c_1, c_2, c_3⟩ := B4.box4
          have hsA4 := World.block_lt_of_cell? _ _ a_0; dsimp only at hsA4
          have hsB4 := World.block_lt_of_cell? _ _ c_0; dsimp only at hsB4
          replace hE := Lib.hid hE; replace hpF := Lib.hid hpF; replace hbadF := Lib.hid hbadF; replace PA5 := Lib.hid PA5; replace PB5 := Lib.hid PB5
          clear RG RF A3 B0 FB4 FB5
          go_upto_region 22 with fail
          obtain ⟨wH, hwH⟩ : ∃ W, W = wG.alloc (.cells #[.int .i64 ta.kind, .int .i64 ta.n, .string ta.s, .slice xa ta.kids.length ca, .int .i64 tb.kind, .int .i64 tb.n, .string tb.s, .slice xb tb.kids.length cb] 63) := ⟨_, rfl⟩
          obtain ⟨wI, hwI⟩ : ∃ W, W = wH.alloc (.cells #[.int .i64 5, .int .i64 0, .string ⟨#[]⟩, .slice (some ⟨wG.heap.size, 0, none⟩) 2 2] 63) := ⟨_, rfl⟩
          have hzH : wH.heap.size = wG.heap.size + 1 := by rw [hwH]; simp
          rw [← hwH, ← hwI, ← hzH]
          have hbH : Below wG.heap.size wG wH := by rw [hwH]; go_grown
          have hbI : Below wH.heap.size wH wI := by rw [hwI]; go_grown
          have L1 : RowAt wI wG.heap.size 0 ([.int .i64 ta.kind, .int .i64 ta.n, .string ta.s, .slice xa ta.kids.length ca] ++ [.int .i64 tb.kind, .int .i64 tb.n, .string tb.s, .slice xb tb.kids.length cb]) := RowAt.below (by rw [hwH]; exact RowAt.box wG #[.int .i64 ta.kind, .int .i64 ta.n, .string ta.s, .slice xa ta.kids.length ca, .int .i64 tb.kind, .int .i64 tb.n, .string tb.s, .slice xb tb.kids.length cb] _) hbI
          have X1 : RowAt wI wH.heap.size 0 [.int .i64 5, .int .i64 0, .string ⟨#[]⟩, .slice (some ⟨wG.heap.size, 0, none⟩) 2 2] := by rw [hwI]; exact RowAt.box wH #[_, _, _, _] _
          have hwf5 : (PxT.mk 5 0 ⟨#[]⟩ [ta, tb]).wf := wf0 (k := 5) (by omega) (by decide)
          have hwz : w.heap.size < w0.heap.size := hsE
          have hzG := FB6.size
          have PP := pv_two hwf5 (S := fun g => w.heap.size < g) (show w.heap.size < wG.heap.size by omega) L1 (((PA5.out.below hbH).below hbI).to (fun _ _ _ => rfl) (fun g hg _ => by omega)) (((PB5.out.below hbH).below hbI).to (fun _ _ _ => rfl) (fun g hg _ => by omega))
          have FI := (FB6.trans (RdF.of hbH (by have := RG2.lt; omega))).trans (RdF.of hbI (by have := RG2.lt; omega))
          have RI := (RG2.below hbH).below hbI
          obtain ⟨E3, EW3⟩ := ek.out _ FI
          obtain ⟨e_0, e_1, e_2, e_3⟩ := E3.box4
          have ef_0 := EW3.frz 0 (by omega); have ef_1 := EW3.frz 1 (by omega); have ef_2 := EW3.frz 2 (by omega); have ef_3 := EW3.frz 3 (by omega)
          obtain ⟨x_0, x_1, x_2, x_3⟩ := X1.box4
          have hsE3 := World.block_lt_of_cell? _ _ e_0; dsimp only at hsE3
          have hsX3 := World.block_lt_of_cell? _ _ x_0; dsimp only at hsX3
          have hzX : wG.heap.size + 1 ≤ wH.heap.size := by omega
          clear hwH hwI hzH hbH hbI L1 X1 a_0 a_1 a_2 a_3 c_0 c_1 c_2 c_3 A4 B4 hsA4 hsB4
          generalize wG.heap.size = gL at *
          generalize wH.heap.size = gX at *
          have n1 : ¬ gX = w.heap.size := by omega
          have n2 : ¬ w.heap.size = gX := by omega
          replace PP := Lib.hid PP
          have hfin := hend.out wI (.mk 5 0 ⟨#[]⟩ [ta, tb]) (some ⟨gL, 0, none⟩) 2 pF badF FI RI hpFs (PP.out.mono (by omega)) hE.out
          replace hfin := Lib.hid hfin
          go_wp2_with fail
          obtain ⟨p_0, p_1, p_2, p_3⟩ := (put4_cells (x := .int .i64 5) (y := .int .i64 0) (z := .string ⟨#[]⟩) (u := .slice (some ⟨gL, 0, none⟩) 2 2) E3 rfl).box4
          unfold put4 at p_0 p_1 p_2 p_3
          refine bodyPost_ret (v := .agg #[.int .i64 5, .int .i64 0, .string ⟨#[]⟩, .slice (some ⟨gL, 0, none⟩) 2 2]) (by simp [results, Try.results61, go_sem, p_0, p_1, p_2, p_3]) rfl ?_
          exact hfin.out
        · go_upto_region 19 with (go_at_call 82; (with_reducible refine (l21Take_c s ⟨#[32, 58, 58, 32]⟩ pA b badA hs (by decide) (by decide) (by omega) _ RC).mono ?_); rintro e wD ⟨rfl, RD, FD⟩)
          have hcc' := hcc
          rw [hcc] at RD
          replace RD : RdS wD b s (pA + 4) badA := RD
          replace hcc' := Lib.hid hcc'
          clear hcc
          obtain ⟨p2, hp2d⟩ : ∃ x, x = pA + 4 := ⟨_, rfl⟩
          obtain ⟨bad2, hbad2⟩ : ∃ x, x = badA := ⟨_, rfl⟩
          rw [← hp2d, ← hbad2] at RD
          have hp2 : p2 ≤ s.size + 1 := by have := at_le (t := ⟨#[32, 58, 58, 32]⟩) (by decide) hcc'.out; rw [hp2d]; show pA + 4 ≤ _; have h4 : (⟨#[32, 58, 58, 32]⟩ : ByteArray).size = 4 := rfl; omega
          have FB4 := FB3.trans FD
          have A2 := A1.kept FD.kept (by omega)
          have PA3 := (PA2.out.kept FC.kept (fun g hg e => by omega)).kept FD.kept (fun g hg e => by omega)
          replace hp2d := Lib.hid hp2d; replace hbad2 := Lib.hid hbad2; replace PA3 := Lib.hid PA3
          go_upto_region 20 with (go_at_call 32; (with_reducible refine (hR.out p2 bad2 _ hp2 RD).mono ?_); rintro e wE ⟨tb, xb, cb, pB, badB, rfl, PB, RE, FE, hpB, hmB⟩)
          obtain ⟨wF, hwF⟩ : ∃ W, W = wE.alloc (.cells #[.int .i64 tb.kind, .int .i64 tb.n, .string tb.s, .slice xb tb.kids.length cb] 63) := ⟨_, rfl⟩
          rw [← hwF]
          have hbF : Below wE.heap.size wE wF := by rw [hwF]; go_grown
          have B0 : RowAt wF wE.heap.size 0 [.int .i64 tb.kind, .int .i64 tb.n, .string tb.s, .slice xb tb.kids.length cb] := by rw [hwF]; exact RowAt.box wE #[_, _, _, _] _
          obtain ⟨bB, hbB⟩ : ∃ x, x = wE.heap.size := ⟨_, rfl⟩
          rw [← hbB] at B0 ⊢
          have hbE : b ≤ wE.heap.size := by have := RE.lt; omega
          have FB5 := (FB4.trans FE).trans (RdF.of hbF hbE)
          have RF := RE.below hbF
          have A3 := (A2.kept FE.kept (by omega)).below hbF
          have hmB' : Ends s (if bad2 then none else readS f (fromB s p2)) tb pB badB := hmB
          have hzD := FB4.size
          have PB2 : PV (2 * f + 1) (fun g => w0.heap.size ≤ g) wF [.int .i64 tb.kind, .int .i64 tb.n, .string tb.s, .slice xb tb.kids.length cb] tb := (PB.below hbF).to (fun _ _ _ => rfl) fun g hg _ => by omega
          have PA4 := (PA3.out.kept FE.kept (fun g hg e => by omega)).below hbF
          have hbB2 : w0.heap.size ≤ bB := by have := FE.size; omega
          replace hbB := Lib.hid hbB; replace hmB' := Lib.hid hmB'; replace PB2 := Lib.hid PB2; replace PA4 := Lib.hid PA4
          clear hwF hbF PB RE FE RD FD RB2 hmB A0 A1 A2 hzD
          go_upto_region 21 with (go_at_call 82; (with_reducible refine (l21Take_c s ⟨#[41]⟩ pB b badB hs (by decide) (by decide) (by omega) _ RF).mono ?_); rintro e wG ⟨rfl, RG, FG⟩)
          have RG2 : RdS wG b s (if q41 s pB then pB + 1 else pB) (if q41 s pB then badB else true) := RG
          obtain ⟨pF, hpF⟩ : ∃ x, x = (if q41 s pB then pB + 1 else pB) := ⟨_, rfl⟩
          obtain ⟨badF, hbadF⟩ : ∃ x, x = (if q41 s pB then badB else true) := ⟨_, rfl⟩
          rw [← hpF, ← hbadF] at RG2
          have hpFs : pF ≤ s.size + 1 := by
            rw [hpF]
            cases hq : q41 s pB with
            | true => have := q41_le hq; rw [if_pos rfl]; omega
            | false => rw [if_neg (by decide)]; exact hpB
          have hE : Ends s (readIn (readS f) (fromB s k1)) (tCons ta tb) pF badF := by
            rw [htwo.out, hpF, hbadF]
            exact ends_cons hmA.out hcc'.out (by rw [← hp2d.out, ← hbad2.out]; exact hmB'.out)
          have A4 := A3.kept FG.kept (by omega)
          have B4 := B0.kept FG.kept (by omega)
          have FB6 := FB5.trans FG
          have PA5 := PA4.out.kept FG.kept (fun g hg e => by omega)
          have PB5 := PB2.out.kept FG.kept (fun g hg e => by omega)
          obtain ⟨a_0, a_1, a_2, a_3⟩ := A4.box4
          obtain ⟨c_0, c_1, c_2, c_3⟩ := B4.box4
          have hsA4 := World.block_lt_of_cell? _ _ a_0; dsimp only at hsA4
          have hsB4 := World.block_lt_of_cell? _ _ c_0; dsimp only at hsB4
          replace hE := Lib.hid hE; replace hpF := Lib.hid hpF; replace hbadF := Lib.hid hbadF; replace PA5 := Lib.hid PA5; replace PB5 := Lib.hid PB5
          clear RG RF A3 B0 FB4 FB5
          go_upto_region 22 with fail
          obtain ⟨wH, hwH⟩ : ∃ W, W = wG.alloc (.cells #[.int .i64 ta.kind, .int .i64 ta.n, .string ta.s, .slice xa ta.kids.length ca, .int .i64 tb.kind, .int .i64 tb.n, .string tb.s, .slice xb tb.kids.length cb] 63) := ⟨_, rfl⟩
          obtain ⟨wI, hwI⟩ : ∃ W, W = wH.alloc (.cells #[.int .i64 5, .int .i64 0, .string ⟨#[]⟩, .slice (some ⟨wG.heap.size, 0, none⟩) 2 2] 63) := ⟨_, rfl⟩
          have hzH : wH.heap.size = wG.heap.size + 1 := by rw [hwH]; simp
          rw [← hwH, ← hwI, ← hzH]
          have hbH : Below wG.heap.size wG wH := by rw [hwH]; go_grown
          have hbI : Below wH.heap.size wH wI := by rw [hwI]; go_grown
          have L1 : RowAt wI wG.heap.size 0 ([.int .i64 ta.kind, .int .i64 ta.n, .string ta.s, .slice xa ta.kids.length ca] ++ [.int .i64 tb.kind, .int .i64 tb.n, .string tb.s, .slice xb tb.kids.length cb]) := RowAt.below (by rw [hwH]; exact RowAt.box wG #[.int .i64 ta.kind, .int .i64 ta.n, .string ta.s, .slice xa ta.kids.length ca, .int .i64 tb.kind, .int .i64 tb.n, .string tb.s, .slice xb tb.kids.length cb] _) hbI
          have X1 : RowAt wI wH.heap.size 0 [.int .i64 5, .int .i64 0, .string ⟨#[]⟩, .slice (some ⟨wG.heap.size, 0, none⟩) 2 2] := by rw [hwI]; exact RowAt.box wH #[_, _, _, _] _
          have hwf5 : (PxT.mk 5 0 ⟨#[]⟩ [ta, tb]).wf := wf0 (k := 5) (by omega) (by decide)
          have hwz : w.heap.size < w0.heap.size := hsE
          have hzG := FB6.size
          have PP := pv_two hwf5 (S := fun g => w.heap.size < g) (show w.heap.size < wG.heap.size by omega) L1 (((PA5.out.below hbH).below hbI).to (fun _ _ _ => rfl) (fun g hg _ => by omega)) (((PB5.out.below hbH).below hbI).to (fun _ _ _ => rfl) (fun g hg _ => by omega))
          have FI := (FB6.trans (RdF.of hbH (by have := RG2.lt; omega))).trans (RdF.of hbI (by have := RG2.lt; omega))
          have RI := (RG2.below hbH).below hbI
          obtain ⟨E3, EW3⟩ := ek.out _ FI
          obtain ⟨e_0, e_1, e_2, e_3⟩ := E3.box4
          have ef_0 := EW3.frz 0 (by omega); have ef_1 := EW3.frz 1 (by omega); have ef_2 := EW3.frz 2 (by omega); have ef_3 := EW3.frz 3 (by omega)
          obtain ⟨x_0, x_1, x_2, x_3⟩ := X1.box4
          have hsE3 := World.block_lt_of_cell? _ _ e_0; dsimp only at hsE3
          have hsX3 := World.block_lt_of_cell? _ _ x_0; dsimp only at hsX3
          have hzX : wG.heap.size + 1 ≤ wH.heap.size := by omega
          clear hwH hwI hzH hbH hbI L1 X1 a_0 a_1 a_2 a_3 c_0 c_1 c_2 c_3 A4 B4 hsA4 hsB4
          generalize wG.heap.size = gL at *
          generalize wH.heap.size = gX at *
          have n1 : ¬ gX = w.heap.size := by omega
          have n2 : ¬ w.heap.size = gX := by omega
          replace PP := Lib.hid PP
          go_wp2_with fail
          obtain ⟨wJ, hwJ⟩ : ∃ W, W = put4 wI w.heap.size (.int .i64 4) (.int .i64 0) (.string ⟨#[58, 58]⟩) (.slice (some ⟨wI.heap.size, 0, none⟩) 1 1) := ⟨_, rfl⟩
          have EJ : RowAt wJ w.heap.size 0 [.int .i64 4, .int .i64 0, .string ⟨#[58, 58]⟩, .slice (some ⟨wI.heap.size, 0, none⟩) 1 1] := by rw [hwJ]; exact put4_cells E3 rfl
          have hfin : RdPost b s (readIn (readS f) (fromB s k1)) (2 * f + 3) w (.returned (.agg #[.int .i64 4, .int .i64 0, .string ⟨#[58, 58]⟩, .slice (some ⟨wI.heap.size, 0, none⟩) 1 1])) (wJ.alloc (.cells #[.int .i64 5, .int .i64 0, .string ⟨#[]⟩, .slice (some ⟨gL, 0, none⟩) 2 2] 63)) := by
            have kJ : Kept (· = w.heap.size) wI wJ := by rw [hwJ]; exact put4_kept _ _ _ _ _ _
            have hzJ : wJ.heap.size = wI.heap.size := by rw [hwJ]; simp [put4, World.setCell]
            have bJ : Below b wI wJ := by
              rw [hwJ]
              exact ((((Below.refl b wI).setCell (p := ⟨w.heap.size, 0, none⟩) (by show b ≤ w.heap.size; omega) _).setCell (p := ⟨w.heap.size, 1, none⟩) (by show b ≤ w.heap.size; omega) _).setCell (p := ⟨w.heap.size, 2, none⟩) (by show b ≤ w.heap.size; omega) _).setCell (p := ⟨w.heap.size, 3, none⟩) (by show b ≤ w.heap.size; omega) _
            have hbK : Below wJ.heap.size wJ (wJ.alloc (.cells #[.int .i64 5, .int .i64 0, .string ⟨#[]⟩, .slice (some ⟨gL, 0, none⟩) 2 2] 63)) := by go_grown
            have RJ := (RI.kept kJ (by omega)).below hbK
            have FF := F0.trans FI
            have FJ : RdF b w wJ := ⟨fun x h1 h2 => (kJ x (Nat.lt_of_lt_of_le h1 FF.size) (by omega)).trans (FF.kept x h1 h2), FF.below.trans bJ⟩
            have FK := FJ.trans (RdF.of hbK (by have := hsE3; omega))
            have hwf4 : (PxT.mk 4 0 ⟨#[58, 58]⟩ [.mk 5 0 ⟨#[]⟩ [ta, tb]]).wf := wf0 (k := 4) (by omega) (by decide)
            have PK := pv_one hwf4 (S := fun g => w.heap.size < g) (show w.heap.size < wI.heap.size by omega) (hzJ ▸ RowAt.box wJ #[.int .i64 5, .int .i64 0, .string ⟨#[]⟩, .slice (some ⟨gL, 0, none⟩) 2 2] _) ((PP.out.kept kJ (fun g hg e => by omega)).below hbK)
            exact ⟨.mk 4 0 ⟨#[58, 58]⟩ [.mk 5 0 ⟨#[]⟩ [ta, tb]], some ⟨wI.heap.size, 0, none⟩, 1, pF, badF, rfl, PK.to (fun _ _ _ => rfl) (fun g hg _ => by omega), RJ, FK, hpFs, hE.out⟩
          unfold put4 at hwJ
          rw [← hwJ]
          obtain ⟨p_0, p_1, p_2, p_3⟩ := EJ.box4
          have hsEJ := World.block_lt_of_cell? _ _ p_0; dsimp only at hsEJ
          clear hwJ e_0 e_1 e_2 e_3 ef_0 ef_1 ef_2 ef_3
          refine bodyPost_ret (v := .agg #[.int .i64 4, .int .i64 0, .string ⟨#[58, 58]⟩, .slice (some ⟨wI.heap.size, 0, none⟩) 1 1]) (by simp [results, Try.results61, go_sem, p_0, p_1, p_2, p_3, hsEJ]) rfl ?_
          exact hfin
      · have harg := readIn_arg (rd := readS f) h41'.out hu'.out ha
        replace harg := Lib.hid harg
        have h32 : isAt (⟨#[32]⟩ : ByteArray).data.toList (fromB s k2) = true := by
          have h := ha
          unfold argB at h
          rw [hrest.out] at h
          simp only [Bool.and_eq_true] at h
          exact h.1
        have hwl : (wOf (fromB s k1)).length ≤ 1048576 := by have := hk2.out; omega
        have hk21 : k2 + 1 ≤ s.size := at_le (t := ⟨#[32]⟩) (by decide) h32
        have hends := fun (p : Nat) (t : PxT) (bad : Bool) => ends_arg (rd := readS f) (s := s) (k := k1) (p := p) (t := t) (bad := bad)
        rw [← hk2.out, ← harg.out] at hends
        have hwsz : (⟨(wOf (fromB s k1)).toArray⟩ : ByteArray).size ≤ 1048576 := by show (wOf (fromB s k1)).toArray.size ≤ _; simpa using hwl
        have hwd : tCon1 ⟨(wOf (fromB s k1)).toArray⟩ = fun t => PxT.mk 4 0 ⟨(wOf (fromB s k1)).toArray⟩ [t] := rfl
        rw [hwd] at hends
        clear hwd
        generalize (⟨(wOf (fromB s k1)).toArray⟩ : ByteArray) = wd at *
        replace hends := Lib.hid hends; replace h32 := Lib.hid h32
        go_upto_region 10 with (go_at_call 82; (with_reducible refine (l21Take_c s ⟨#[32]⟩ k2 b false hs (by decide) (by decide) (by omega) _ R5).mono ?_); rintro e wD ⟨rfl, RD, FD⟩)
        rw [h32.out] at RD
        replace RD : RdS wD b s (k2 + 1) false := RD
        have FB := F5.trans FD
        clear ha R5 FD
        go_upto_region 11 with (go_at_call 32; (with_reducible refine (hR.out (k2 + 1) false _ (by omega) RD).mono ?_); rintro e wA ⟨ta, xa, ca, pA, badA, rfl, PA, RA, FA, hpA, hmA⟩)
        obtain ⟨wB, hwB⟩ : ∃ W, W = wA.alloc (.cells #[.int .i64 ta.kind, .int .i64 ta.n, .string ta.s, .slice xa ta.kids.length ca] 63) := ⟨_, rfl⟩
        rw [← hwB]
        have hbB : Below wA.heap.size wA wB := by rw [hwB]; go_grown
        have A0 : RowAt wB wA.heap.size 0 [.int .i64 ta.kind, .int .i64 ta.n, .string ta.s, .slice xa ta.kids.length ca] := by rw [hwB]; exact RowAt.box wA #[_, _, _, _] _
        obtain ⟨bA, hbA⟩ : ∃ x, x = wA.heap.size := ⟨_, rfl⟩
        rw [← hbA] at A0 ⊢
        have hbA2 : w0.heap.size ≤ bA := by have := FB.size; have := FA.size; omega
        have hmA : Ends s (readS f (fromB s (k2 + 1))) ta pA badA := by have h := hmA; rw [if_neg (by decide)] at h; exact h
        have RB2 := RA.below hbB
        have hbb : b ≤ wA.heap.size := by have := FA.size; have := RA.lt; omega
        have FB2 := (FB.trans FA).trans (RdF.of hbB hbb)
        have PA2 : PV (2 * f + 1) (fun g => w0.heap.size ≤ g) wB [.int .i64 ta.kind, .int .i64 ta.n, .string ta.s, .slice xa ta.kids.length ca] ta := (PA.below hbB).to (fun _ _ _ => rfl) fun g hg _ => by have := FB.size; omega
        replace hbA := Lib.hid hbA; replace hmA := Lib.hid hmA; replace PA2 := Lib.hid PA2
        clear hwB hbB PA RA FA
        go_upto_region 12 with (go_at_call 82; (with_reducible refine (l21Take_c s ⟨#[41]⟩ pA b badA hs (by decide) (by decide) (by omega) _ RB2).mono ?_); rintro e wG ⟨rfl, RG, FG⟩)
        have RG2 : RdS wG b s (if q41 s pA then pA + 1 else pA) (if q41 s pA then badA else true) := RG
        have hE := hends.out pA ta badA hmA.out
        obtain ⟨pF, hpF⟩ : ∃ x, x = (if q41 s pA then pA + 1 else pA) := ⟨_, rfl⟩
        obtain ⟨badF, hbadF⟩ : ∃ x, x = (if q41 s pA then badA else true) := ⟨_, rfl⟩
        rw [← hpF, ← hbadF] at RG2
        rw [← hpF, ← hbadF] at hE
        have hpFs : pF ≤ s.size + 1 := by
          rw [hpF]
          cases hq : q41 s pA with
          | true => have := q41_le hq; rw [if_pos rfl]; omega
          | false => rw [if_neg (by decide)]; exact hpA
        have A4 := A0.kept FG.kept (by omega)
        have FI := FB2.trans FG
        have PA5 := PA2.out.kept FG.kept (fun g hg e => by omega)
        obtain ⟨E3, EW3⟩ := ek.out _ FI
        obtain ⟨e_0, e_1, e_2, e_3⟩ := E3.box4
        have ef_0 := EW3.frz 0 (by omega); have ef_1 := EW3.frz 1 (by omega); have ef_2 := EW3.frz 2 (by omega); have ef_3 := EW3.frz 3 (by omega)
        obtain ⟨a_0, a_1, a_2, a_3⟩ := A4.box4
        have hsE3 := World.block_lt_of_cell? _ _ e_0; dsimp only at hsE3
        have hsA4 := World.block_lt_of_cell? _ _ a_0; dsimp only at hsA4
        have n1 : ¬ bA = w.heap.size := by omega
        have n2 : ¬ w.heap.size = bA := by omega
        have hzG := FI.size
        replace hE := Lib.hid hE; replace hpF := Lib.hid hpF; replace hbadF := Lib.hid hbadF; replace PA5 := Lib.hid PA5
        clear RG RB2 A0 FB FB2
        go_wp2_with fail
        obtain ⟨wJ, hwJ⟩ : ∃ W, W = put4 wG w.heap.size (.int .i64 4) (.int .i64 0) (.string wd) (.slice (some ⟨wG.heap.size, 0, none⟩) 1 1) := ⟨_, rfl⟩
        have EJ : RowAt wJ w.heap.size 0 [.int .i64 4, .int .i64 0, .string wd, .slice (some ⟨wG.heap.size, 0, none⟩) 1 1] := by rw [hwJ]; exact put4_cells E3 rfl
        have hfin : RdPost b s (readIn (readS f) (fromB s k1)) (2 * f + 3) w (.returned (.agg #[.int .i64 4, .int .i64 0, .string wd, .slice (some ⟨wG.heap.size, 0, none⟩) 1 1])) (wJ.alloc (.cells #[.int .i64 ta.kind, .int .i64 ta.n, .string ta.s, .slice xa ta.kids.length ca] 63)) := by
          have kJ : Kept (· = w.heap.size) wG wJ := by rw [hwJ]; exact put4_kept _ _ _ _ _ _
          have hzJ : wJ.heap.size = wG.heap.size := by rw [hwJ]; simp [put4, World.setCell]
          have bJ : Below b wG wJ := by
            rw [hwJ]
            exact ((((Below.refl b wG).setCell (p := ⟨w.heap.size, 0, none⟩) (by show b ≤ w.heap.size; omega) _).setCell (p := ⟨w.heap.size, 1, none⟩) (by show b ≤ w.heap.size; omega) _).setCell (p := ⟨w.heap.size, 2, none⟩) (by show b ≤ w.heap.size; omega) _).setCell (p := ⟨w.heap.size, 3, none⟩) (by show b ≤ w.heap.size; omega) _
          have hbK : Below wJ.heap.size wJ (wJ.alloc (.cells #[.int .i64 ta.kind, .int .i64 ta.n, .string ta.s, .slice xa ta.kids.length ca] 63)) := by go_grown
          have RJ := (RG2.kept kJ (by omega)).below hbK
          have FF := F0.trans FI
          have FJ : RdF b w wJ := ⟨fun x h1 h2 => (kJ x (Nat.lt_of_lt_of_le h1 FF.size) (by omega)).trans (FF.kept x h1 h2), FF.below.trans bJ⟩
          have FK := FJ.trans (RdF.of hbK (by have := hsE3; omega))
          have hwf4 : (PxT.mk 4 0 wd [ta]).wf := wf0 (k := 4) (by omega) (by omega)
          have PK := pv_one hwf4 (S := fun g => w.heap.size < g) (show w.heap.size < wG.heap.size by omega) (hzJ ▸ RowAt.box wJ #[.int .i64 ta.kind, .int .i64 ta.n, .string ta.s, .slice xa ta.kids.length ca] _) (((PA5.out.kept kJ (fun g hg e => by omega)).below hbK).to (fun _ _ _ => rfl) (fun g hg _ => by omega))
          exact ⟨.mk 4 0 wd [ta], some ⟨wG.heap.size, 0, none⟩, 1, pF, badF, rfl, (PK.mono (by omega)).to (fun _ _ _ => rfl) (fun g hg _ => by omega), RJ, FK, hpFs, hE.out⟩
        unfold put4 at hwJ
        rw [← hwJ]
        obtain ⟨p_0, p_1, p_2, p_3⟩ := EJ.box4
        have hsEJ := World.block_lt_of_cell? _ _ p_0; dsimp only at hsEJ
        clear hwJ e_0 e_1 e_2 e_3 ef_0 ef_1 ef_2 ef_3
        refine bodyPost_ret (v := .agg #[.int .i64 4, .int .i64 0, .string wd, .slice (some ⟨wG.heap.size, 0, none⟩) 1 1]) (by simp [results, Try.results61, go_sem, p_0, p_1, p_2, p_3, hsEJ]) rfl ?_
        exact hfin
  · have h41' := h41
    replace h41' := Lib.hid h41'
    go_upto_region 4 with (go_at_call 82; (with_reducible refine (l21Take_c s ⟨#[41]⟩ k1 b false hs (by decide) (by decide) (by omega) _ R2).mono ?_); rintro e w3 ⟨rfl, R3, F3⟩)
    rw [h41] at R3
    have hm := readIn_unit (rd := readS f) h41'.out
    replace R3 : RdS w3 b s (k1 + 1) false := R3
    have hk2 : k1 + 1 ≤ s.size := at_le (t := ⟨#[41]⟩) (by decide) h41'.out
    have F03 := F02.trans F3
    obtain ⟨E3, EW3⟩ := ek.out _ F03
    obtain ⟨e_0, e_1, e_2, e_3⟩ := E3.box4
    have ef_0 := EW3.frz 0 (by omega); have ef_1 := EW3.frz 1 (by omega); have ef_2 := EW3.frz 2 (by omega); have ef_3 := EW3.frz 3 (by omega)
    have hwf : (PxT.mk 6 0 ⟨#[]⟩ []).wf := wf0 (k := 6) (by omega) (by decide)
    have hfin := hend.out w3 (.mk 6 0 ⟨#[]⟩ []) none 0 (k1 + 1) false F03 R3 (by omega) ((pv_leaf hwf).mono (by omega)) (.inl ⟨rfl, hk2, hm⟩)
    replace hfin := Lib.hid hfin; replace hm := Lib.hid hm
    clear h41
    go_wp2_with fail
    obtain ⟨p_0, p_1, p_2, p_3⟩ := (put4_cells (x := .int .i64 6) (y := .int .i64 0) (z := .string ⟨#[]⟩) (u := .slice none 0 0) E3 rfl).box4
    unfold put4 at p_0 p_1 p_2 p_3
    refine bodyPost_ret (v := .agg #[.int .i64 6, .int .i64 0, .string ⟨#[]⟩, .slice none 0 0]) (by simp [results, Try.results61, go_sem, p_0, p_1, p_2, p_3]) rfl ?_
    exact hfin.out
end Go.Proofs.Ytpblhonnknmjjaa
