/- Parts of the proof, merged: Thread5, Peep0, Peep. -/
import Derived.Test.YtfobkbjabenkkaaGreatPe43
/- Thread: how big the result is. -/
namespace Go.Proofs.YtfobkbjabenkkaaGreat
open Go.RowKit
theorem threadP_sub (c : GCode) : CodeSub c (threadP c) := by
  unfold threadP
  split
  · exact ⟨by simp, .inl rfl⟩
  · exact ⟨by simp, .inr rfl⟩
end Go.Proofs.YtfobkbjabenkkaaGreat

/- Peep: the plain law. -/
namespace Go.Proofs.YtfobkbjabenkkaaGreat
open Go.RowKit
set_option linter.unusedVariables false
set_option linter.unusedSimpArgs false

theorem CodeSub.trans {a b c : GCode} (h : CodeSub a b) (h' : CodeSub b c) : CodeSub a c :=
  ⟨Nat.le_trans h'.1 h.1, by
    rcases h'.2 with e | e
    · rw [e]; exact h.2
    · exact .inr e⟩
theorem CodeSub.copy {a b : GCode} (h : CodeSub a b) (hS : CodeCopy a) : CodeCopy b := by
  obtain ⟨h1, h2, h3⟩ := hS
  have := h.1
  refine ⟨by omega, ?_⟩
  rcases h.2 with e | e
  · rw [e]; exact ⟨h2, h3⟩
  · rw [e]; exact ⟨by simp, fun q hq => by cases hq⟩
noncomputable def passP (c : GCode) : GCode := idleP (stripP (threadP c))
theorem passP_sub (c : GCode) : CodeSub c (passP c) := ((threadP_sub c).trans (stripP_sub _)).trans (idleP_sub _)
noncomputable def peepF : Nat → GCode → GCode
  | 0, c => c
  | k + 1, c => if (passP c).ins.length < c.ins.length then peepF k (passP c) else passP c
noncomputable def peepP (c : GCode) : GCode := if codeOk c then peepF (c.ins.length + 1) c else ⟨[], []⟩
theorem peepF_sub : ∀ (k : Nat) (c : GCode), CodeSub c (peepF k c)
  | 0, c => ⟨Nat.le_refl _, .inl rfl⟩
  | k + 1, c => by
    unfold peepF
    split
    · exact (passP_sub c).trans (peepF_sub k _)
    · exact passP_sub c
theorem peepP_sub (c : GCode) : CodeSub c (peepP c) := by
  unfold peepP
  split
  · exact peepF_sub _ _
  · exact ⟨by simp, .inr rfl⟩
/-- How many instructions the box b holds. -/
def insLen (w : World) (b : Nat) : Nat := match w.cell? ⟨b, 0, none⟩ with | some v => slen v | none => 0
theorem insLen_eq {w : World} {b n c : Nat} {a : Option Addr} (h : w.cell? ⟨b, 0, none⟩ = some (.slice a n c)) : insLen w b = n := by unfold insLen; rw [h]; rfl
/-- One pass, step by step. -/
noncomputable def stageP : Nat → GCode → GCode
  | 0, c => c
  | 1, c => threadP c
  | 2, c => stripP (threadP c)
  | _, c => passP c
theorem stageP_sub (c : GCode) : ∀ j, CodeSub c (stageP j c)
  | 0 => ⟨Nat.le_refl _, .inl rfl⟩
  | 1 => threadP_sub c
  | 2 => (threadP_sub c).trans (stripP_sub _)
  | _ + 3 => passP_sub c
/-- A code's values, by their form. -/
theorem GCode.R.form {lo : Nat} {w : World} {r : List Value} {c : GCode} (h : GCode.R lo w r c) : ∃ a n b m, r = [.slice a c.ins.length n, .slice b c.pats.length m] := by
  obtain ⟨u0, u1, rfl, _, h0, h1⟩ := h
  obtain ⟨a, n, rfl⟩ := h0.form
  obtain ⟨b, m, rfl⟩ := h1.form
  exact ⟨a, n, b, m, rfl⟩

end Go.Proofs.YtfobkbjabenkkaaGreat

/- Peep: the program's. -/
namespace Go.Proofs.YtfobkbjabenkkaaGreat
open Go.RowKit
set_option linter.unusedVariables false
set_option linter.unusedSimpArgs false
attribute [local go_sem] Ext.cell

theorem stage_o (c : GCode) (hS : CodeCopy c) : ∀ j, j < 3 → ∀ (r : List Value) (W : World), GCode.R 0 W r (stageP j c) → Calls Tryz.prog (match j with | 0 => 21 | 1 => 22 | _ => 23) #[.agg r.toArray] W (CopyPost (stageP (j + 1) c) W)
  | 0, _, r, W, h => Thread_o c hS r 0 W h
  | 1, _, r, W, h => Strip_o _ ((stageP_sub c 1).copy hS) r 0 W h
  | 2, _, r, W, h => Idle_o _ ((stageP_sub c 2).copy hS) r 0 W h
  | j + 3, hj, _, _, _ => absurd hj (by omega)

set_option maxRecDepth 100000 in
set_option maxHeartbeats 16000000 in
theorem Peep_o (c : GCode) (hS : CodeCopy c) (r : List Value) (lo : Nat) (w : World) (hr : GCode.R lo w r c) :
    Calls Tryz.prog 7 #[.agg r.toArray] w (CopyPost (peepP c) w) := by
  have cK := fun W (hW : Below w.heap.size w W) => CodeOk_c c hS.small r lo W (GCode.good.below hr hW)
  have hr0 := fun W (hW : Below w.heap.size w W) => GCode.good.mono (GCode.good.below hr hW) (Nat.zero_le lo)
  obtain ⟨ia, ic, pa, pc, rfl⟩ := hr.form
  clear hr
  unfold peepP
  cases hq : codeOk c
  · rw [hq] at cK
    rw [if_neg (by decide)]
    clear hq hS hr0
    replace cK := Lib.hid cK
    generalize c.ins.length = n at *
    generalize c.pats.length = m at *
    go_enter Tryz.func7, Tryz.ntmps7
    go_upto_region 1 with fail
    have C : RowAt (w.alloc (.cells #[.slice ia n ic, .slice pa m pc] 30)) (w.heap.size) 0 [.slice ia n ic, .slice pa m pc] := RowAt.box w #[.slice ia n ic, .slice pa m pc] 30
    have C := C.below (show Below (w.alloc (.cells #[.slice ia n ic, .slice pa m pc] 30)).heap.size (w.alloc (.cells #[.slice ia n ic, .slice pa m pc] 30)) ((w.alloc (.cells #[.slice ia n ic, .slice pa m pc] 30)).alloc (.cells #[.slice none 0 0, .slice none 0 0] 30)) by go_grown)
    have E : RowAt ((w.alloc (.cells #[.slice ia n ic, .slice pa m pc] 30)).alloc (.cells #[.slice none 0 0, .slice none 0 0] 30)) (w.heap.size + 1) 0 [.slice none 0 0, .slice none 0 0] := by have h := RowAt.box (w.alloc (.cells #[.slice ia n ic, .slice pa m pc] 30)) #[.slice none 0 0, .slice none 0 0] 30; simp only [World.size_alloc] at h; exact h
    have EW : Wr ((w.alloc (.cells #[.slice ia n ic, .slice pa m pc] 30)).alloc (.cells #[.slice none 0 0, .slice none 0 0] 30)) (w.heap.size + 1) 0 2 := by have h := Wr.box (w.alloc (.cells #[.slice ia n ic, .slice pa m pc] 30)) #[.slice none 0 0, .slice none 0 0] 30; simp only [World.size_alloc] at h; exact h
    have hw : Below w.heap.size w ((w.alloc (.cells #[.slice ia n ic, .slice pa m pc] 30)).alloc (.cells #[.slice none 0 0, .slice none 0 0] 30)) := by go_grown
    generalize ((w.alloc (.cells #[.slice ia n ic, .slice pa m pc] 30)).alloc (.cells #[.slice none 0 0, .slice none 0 0] 30)) = w0 at *
    obtain ⟨c_0, c_1⟩ := C.box2; have hsC := World.block_lt_of_cell? _ _ c_0; dsimp only at hsC; have ef_0 := EW.frz 0 (by omega); have ef_1 := EW.frz 1 (by omega); obtain ⟨e_0, e_1⟩ := E.box2; have hsE := World.block_lt_of_cell? _ _ e_0; dsimp only at hsE
    go_wp2_with (go_at_call 20; ((with_reducible refine (cK.out _ hw).mono ?_); rintro e w1 ⟨rfl, hb⟩; have hw := hw.trans (hb.mono hw.size); have C := C.below hb; obtain ⟨c_0, c_1⟩ := C.box2; have hsC := World.block_lt_of_cell? _ _ c_0; dsimp only at hsC; have EW := EW.below hb; have ef_0 := EW.frz 0 (by omega); have ef_1 := EW.frz 1 (by omega); have E := E.below hb; obtain ⟨e_0, e_1⟩ := E.box2; have hsE := World.block_lt_of_cell? _ _ e_0; dsimp only at hsE; clear hb))
    obtain ⟨w9, hw9, g_0, g_1, k9, b9⟩ := set2_box (lo := w.heap.size) (.slice none 0 0) (.slice none 0 0) e_0 e_1 (by omega)
    rw [← hw9]
    refine bodyPost_ret (ret_code (a := 2) Tryz.results7 rfl g_0 g_1) rfl ?_
    exact CopyPost.zero (hw.trans b9)
  · rw [hq] at cK
    rw [if_pos rfl]
    clear hq
    obtain ⟨n, hn⟩ : ∃ n, n = c.ins.length := ⟨_, rfl⟩
    obtain ⟨m, hm⟩ : ∃ m, m = c.pats.length := ⟨_, rfl⟩
    obtain ⟨R, hR⟩ : ∃ R, peepF (c.ins.length + 1) c = R := ⟨_, rfl⟩
    rw [hR]
    rw [← hn, ← hm] at cK hr0 ⊢
    replace cK := Lib.hid cK; replace hr0 := Lib.hid hr0; replace hS := Lib.hid hS; replace hn := Lib.hid hn; replace hm := Lib.hid hm; replace hR := Lib.hid hR
    go_enter Tryz.func7, Tryz.ntmps7
    go_upto_region 1 with fail
    have C : RowAt (w.alloc (.cells #[.slice ia n ic, .slice pa m pc] 30)) (w.heap.size) 0 [.slice ia n ic, .slice pa m pc] := RowAt.box w #[.slice ia n ic, .slice pa m pc] 30
    have C := C.below (show Below (w.alloc (.cells #[.slice ia n ic, .slice pa m pc] 30)).heap.size (w.alloc (.cells #[.slice ia n ic, .slice pa m pc] 30)) ((w.alloc (.cells #[.slice ia n ic, .slice pa m pc] 30)).alloc (.cells #[.slice none 0 0, .slice none 0 0] 30)) by go_grown)
    have E : RowAt ((w.alloc (.cells #[.slice ia n ic, .slice pa m pc] 30)).alloc (.cells #[.slice none 0 0, .slice none 0 0] 30)) (w.heap.size + 1) 0 [.slice none 0 0, .slice none 0 0] := by have h := RowAt.box (w.alloc (.cells #[.slice ia n ic, .slice pa m pc] 30)) #[.slice none 0 0, .slice none 0 0] 30; simp only [World.size_alloc] at h; exact h
    have EW : Wr ((w.alloc (.cells #[.slice ia n ic, .slice pa m pc] 30)).alloc (.cells #[.slice none 0 0, .slice none 0 0] 30)) (w.heap.size + 1) 0 2 := by have h := Wr.box (w.alloc (.cells #[.slice ia n ic, .slice pa m pc] 30)) #[.slice none 0 0, .slice none 0 0] 30; simp only [World.size_alloc] at h; exact h
    have hw : Below w.heap.size w ((w.alloc (.cells #[.slice ia n ic, .slice pa m pc] 30)).alloc (.cells #[.slice none 0 0, .slice none 0 0] 30)) := by go_grown
    generalize ((w.alloc (.cells #[.slice ia n ic, .slice pa m pc] 30)).alloc (.cells #[.slice none 0 0, .slice none 0 0] 30)) = w0 at *
    obtain ⟨c_0, c_1⟩ := C.box2; have hsC := World.block_lt_of_cell? _ _ c_0; dsimp only at hsC; have ef_0 := EW.frz 0 (by omega); have ef_1 := EW.frz 1 (by omega); obtain ⟨e_0, e_1⟩ := E.box2; have hsE := World.block_lt_of_cell? _ _ e_0; dsimp only at hsE
    go_upto_region 3 with (go_at_call 20; ((with_reducible refine (cK.out _ hw).mono ?_); rintro e w1 ⟨rfl, hb⟩; have hw := hw.trans (hb.mono hw.size); have C := C.below hb; obtain ⟨c_0, c_1⟩ := C.box2; have hsC := World.block_lt_of_cell? _ _ c_0; dsimp only at hsC; have EW := EW.below hb; have ef_0 := EW.frz 0 (by omega); have ef_1 := EW.frz 1 (by omega); have E := E.below hb; obtain ⟨e_0, e_1⟩ := E.box2; have hsE := World.block_lt_of_cell? _ _ e_0; dsimp only at hsE; clear hb))
    go_upto_region 4 with fail
    obtain ⟨w2, hW2⟩ : ∃ W, W = w1.alloc (.cells #[.slice ia n ic, .slice pa m pc] 30) := ⟨_, rfl⟩
    rw [← hW2]
    have hb2 : Below w1.heap.size w1 w2 := by rw [hW2]; go_grown
    have I : RowAt w2 w1.heap.size 0 [.slice ia n ic, .slice pa m pc] := by rw [hW2]; exact RowAt.box w1 #[_, _] _
    have IW : Wr w2 w1.heap.size 0 2 := by rw [hW2]; exact Wr.box w1 #[_, _] _
    have C := C.below hb2
    have E := E.below hb2
    have EW := EW.below hb2
    have hbI : w1.heap.size < w2.heap.size := by rw [hW2]; simp
    obtain ⟨bI, hbIe⟩ : ∃ x, x = w1.heap.size := ⟨_, rfl⟩
    have hw := hw.trans (hb2.mono hw.size)
    rw [← hbIe] at I IW hbI hsE ⊢
    clear hW2 hb2 c_0 c_1 e_0 e_1 ef_0 ef_1 hsC cK
    have hR2 := hr0.out _ hw
    replace hR2 := Lib.hid hR2; replace hbIe := Lib.hid hbIe
    go_loopw [7] (fun v wr => ∃ (k : Nat) (cur : GCode) (ua : Option Addr) (uc : Nat) (ub : Option Addr) (ud : Nat), cur.ins.length < k ∧ Below w.heap.size w wr ∧ bI < wr.heap.size ∧ RowAt wr w.heap.size 0 [.slice ia n ic, .slice pa m pc] ∧ RowAt wr (w.heap.size + 1) 0 [.slice none 0 0, .slice none 0 0] ∧ Wr wr (w.heap.size + 1) 0 2 ∧ RowAt wr bI 0 [.slice ua cur.ins.length uc, .slice ub cur.pats.length ud] ∧ Wr wr bI 0 2 ∧ Hid (GCode.R 0 wr [.slice ua cur.ins.length uc, .slice ub cur.pats.length ud] cur) ∧ Hid (CodeCopy cur) ∧ Hid (peepF k cur = R)) (fun v wr => insLen wr bI)
    case atStart => exact ⟨n + 1, c, ia, ic, pa, pc, by rw [hn.out]; omega, hw, hbI, C, E, EW, by rw [← hn.out, ← hm.out]; exact I, IW, by rw [← hn.out, ← hm.out]; exact hR2, hS, by rw [hn.out]; exact hR⟩
    case round =>
      clear hw hbI C E EW I IW hR2
      obtain ⟨k, cur, ua, uc, ub, ud, hk, hw, hbI, C, E, EW, I, IW, hRc, hSc, hF⟩ := hrel
      have hst := stage_o cur hSc.out
      have hss := fun j => (stageP_sub cur j)
      obtain ⟨l, hl⟩ : ∃ x, x = cur.ins.length := ⟨_, rfl⟩
      obtain ⟨q, hqe⟩ : ∃ x, x = cur.pats.length := ⟨_, rfl⟩
      rw [← hl] at hk
      rw [← hl, ← hqe] at I hRc
      have hl1 : l ≤ 1048576 := by rw [hl]; exact hSc.out.1
      replace hl := Lib.hid hl; replace hqe := Lib.hid hqe; replace hst := Lib.hid hst; replace hss := Lib.hid hss
      have if_0 := IW.frz 0 (by omega); have if_1 := IW.frz 1 (by omega); obtain ⟨i_0, i_1⟩ := I.box2; have hsI := World.block_lt_of_cell? _ _ i_0; dsimp only at hsI
      go_upto_region 5 with fail
      obtain ⟨w3, hW3⟩ : ∃ W, W = wr.alloc (.cells #[.slice ua l uc, .slice ub q ud] 30) := ⟨_, rfl⟩
      rw [← hW3]
      have hb3 : Below wr.heap.size wr w3 := by rw [hW3]; go_grown
      have N := (by rw [hW3]; exact RowAt.box wr #[_, _] _ : RowAt w3 wr.heap.size 0 [.slice ua l uc, .slice ub q ud])
      have NW : Wr w3 wr.heap.size 0 2 := by rw [hW3]; exact Wr.box wr #[_, _] _
      have hs3 : w3.heap.size = wr.heap.size + 1 := by rw [hW3]; simp
      replace hs3 := Lib.hid hs3
      clear hW3
      go_upto_region 6 with fail
      have hs3 := hs3.out
      obtain ⟨w4, hW4⟩ : ∃ W, W = w3.alloc (.cells #[.func (.func 21) #[] #[], .func (.func 22) #[] #[], .func (.func 23) #[] #[]] 31) := ⟨_, rfl⟩
      rw [← hW4]
      have hb4 : Below w3.heap.size w3 w4 := by rw [hW4]; go_grown
      have F4 : RowAt w4 w3.heap.size 0 [.func (.func 21) #[] #[], .func (.func 22) #[] #[], .func (.func 23) #[] #[]] := by rw [hW4]; exact RowAt.box w3 #[_, _, _] _
      have hs4 : w4.heap.size = w3.heap.size + 1 := by rw [hW4]; simp
      have hb34 := hb3.trans (hb4.mono hb3.size)
      have C4 := C.below hb34
      have E4 := E.below hb34
      have E4W := EW.below hb34
      have I4 := I.below hb34
      have I4W := IW.below hb34
      have N4 := N.below hb4
      have N4W := NW.below hb4
      have R4 := GCode.good.below hRc.out hb34
      have hw4 := hw.trans (hb34.mono hw.size)
      have hz0 := hw.size
      obtain ⟨bN, hbN⟩ : ∃ x, x = wr.heap.size := ⟨_, rfl⟩
      obtain ⟨bF, hbF⟩ : ∃ x, x = w3.heap.size := ⟨_, rfl⟩
      have hM : insLen wr bI = l := insLen_eq i_0
      rw [← hbN] at N4 N4W hs3 hbI hz0 ⊢
      rw [← hbF] at F4 hs4 hs3 ⊢
      obtain ⟨B4, hB4⟩ : ∃ x, x = w4.heap.size := ⟨_, rfl⟩
      clear hW4 hb3 hb4 hb34 C E EW I IW N NW hRc hw if_0 if_1 i_0 i_1 hsI
      replace R4 := Lib.hid R4; replace hbN := Lib.hid hbN; replace hbF := Lib.hid hbF; replace hB4 := Lib.hid hB4; replace hM := Lib.hid hM; replace hs3 := Lib.hid hs3; replace hs4 := Lib.hid hs4
      go_loopw [16] (fun i wx => ∃ (j : Nat) (D : GCode) (va : Option Addr) (vc : Nat) (vb : Option Addr) (vd : Nat) (bs : List Nat), j ≤ 3 ∧ i = .int .i64 j ∧ Hid (D = stageP j cur) ∧ Below w.heap.size w wx ∧ B4 ≤ wx.heap.size ∧ RowAt wx w.heap.size 0 [.slice ia n ic, .slice pa m pc] ∧ RowAt wx (w.heap.size + 1) 0 [.slice none 0 0, .slice none 0 0] ∧ Wr wx (w.heap.size + 1) 0 2 ∧ RowAt wx bI 0 [.slice ua l uc, .slice ub q ud] ∧ Wr wx bI 0 2 ∧ RowAt wx bF 0 [.func (.func 21) #[] #[], .func (.func 22) #[] #[], .func (.func 23) #[] #[]] ∧ RowAt wx bN 0 [.slice va D.ins.length vc, .slice vb D.pats.length vd] ∧ Wr wx bN 0 2 ∧ Hid (GCode.R 0 wx [.slice va D.ins.length vc, .slice vb D.pats.length vd] D) ∧ Hid (0 < j → GCode.O bs wx [.slice va D.ins.length vc, .slice vb D.pats.length vd] D ∧ bs.Nodup ∧ ∀ b ∈ bs, B4 ≤ b)) (fun i _ => 3 - (intOf i).toNat)
      case atStart => exact ⟨0, cur, ua, uc, ub, ud, [], by omega, rfl, rfl, hw4, Nat.le_of_eq hB4.out, C4, E4, E4W, I4, I4W, F4, by rw [← hl.out, ← hqe.out]; exact N4, N4W, by rw [← hl.out, ← hqe.out]; exact R4, fun h => absurd h (by omega)⟩
      case round =>
        clear hw4 C4 E4 E4W I4 I4W F4 N4 N4W R4
        obtain ⟨j, D, va, vc, vb, vd, bs, hj, rfl, hD, hw, hB, C, E, EW, I, IW, F, N, NW, hRj, hOj⟩ := hrel
        have hz5 := hw.size
        have hwB : w.heap.size + 1 < B4 := by have := hB4.out; have := hs4.out; have := hs3.out; omega
        have hIB : bI < bN ∧ bN < bF ∧ bF < B4 := by have := hB4.out; have := hs4.out; have := hs3.out; omega
        by_cases hlt : j < 3
        · obtain ⟨D', hD'⟩ : ∃ D', D' = stageP (j + 1) cur := ⟨_, rfl⟩
          have hc := hst.out j hlt [.slice va D.ins.length vc, .slice vb D.pats.length vd] wr (by rw [← hD.out]; exact hRj.out)
          rw [← hD'] at hc
          replace hD' := Lib.hid hD'
          obtain ⟨f_0, f_1, f_2⟩ := F.box3
          have cont : ∀ (xa : Option Addr) (xc : Nat) (xb : Option Addr) (xd : Nat) (bs5 : List Nat) (w5 w6 : World), GCode.O bs5 w5 [.slice xa D'.ins.length xc, .slice xb D'.pats.length xd] D' → bs5.Nodup → (∀ b ∈ bs5, wr.heap.size ≤ b) → Below wr.heap.size wr w5 → Kept (· = bN) w5 w6 → Below w.heap.size w5 w6 → Wr w6 bN 0 2 → w6.cell? ⟨bN, 0, none⟩ = some (.slice xa D'.ins.length xc) → w6.cell? ⟨bN, 1, none⟩ = some (.slice xb D'.pats.length xd) →
              (∃ (j' : Nat) (D : GCode) (va : Option Addr) (vc : Nat) (vb : Option Addr) (vd : Nat) (bs : List Nat), j' ≤ 3 ∧ Value.int .i64 ((j : Int) + 1) = .int .i64 j' ∧ Hid (D = stageP j' cur) ∧ Below w.heap.size w w6 ∧ B4 ≤ w6.heap.size ∧ RowAt w6 w.heap.size 0 [.slice ia n ic, .slice pa m pc] ∧ RowAt w6 (w.heap.size + 1) 0 [.slice none 0 0, .slice none 0 0] ∧ Wr w6 (w.heap.size + 1) 0 2 ∧ RowAt w6 bI 0 [.slice ua l uc, .slice ub q ud] ∧ Wr w6 bI 0 2 ∧ RowAt w6 bF 0 [.func (.func 21) #[] #[], .func (.func 22) #[] #[], .func (.func 23) #[] #[]] ∧ RowAt w6 bN 0 [.slice va D.ins.length vc, .slice vb D.pats.length vd] ∧ Wr w6 bN 0 2 ∧ Hid (GCode.R 0 w6 [.slice va D.ins.length vc, .slice vb D.pats.length vd] D) ∧ Hid (0 < j' → GCode.O bs w6 [.slice va D.ins.length vc, .slice vb D.pats.length vd] D ∧ bs.Nodup ∧ ∀ b ∈ bs, B4 ≤ b)) := by
            intro xa xc xb xd bs5 w5 w6 O5 nd5 f5 hb K6 b6 W6 g0 g1
            have O6 := GCode.ok.kept O5 K6 (fun b hb e => by have := f5 b hb; omega)
            exact ⟨j + 1, D', xa, xc, xb, xd, bs5, by omega, by go_num, hD', (hw.trans (hb.mono hw.size)).trans b6, Nat.le_trans (Nat.le_trans hB hb.size) b6.size, (C.below hb).kept K6 (by omega), (E.below hb).kept K6 (by omega), (EW.below hb).kept K6 (by omega), (I.below hb).kept K6 (by omega), (IW.below hb).kept K6 (by omega), (F.below hb).kept K6 (by omega), RowAt.two g0 g1, W6, GCode.ok.read O6 (fun b _ => Nat.zero_le b), fun _ => ⟨O6, nd5, fun b hb => by have := f5 b hb; omega⟩⟩
          replace cont := Lib.hid cont
          obtain rfl | rfl | rfl : j = 0 ∨ j = 1 ∨ j = 2 := by omega
          all_goals
            first | change Calls Tryz.prog 21 _ _ _ at hc | change Calls Tryz.prog 22 _ _ _ at hc | change Calls Tryz.prog 23 _ _ _ at hc
            replace hc := Lib.hid hc
            have nf_0 := NW.frz 0 (by omega); have nf_1 := NW.frz 1 (by omega); obtain ⟨n_0, n_1⟩ := N.box2; have hsN := World.block_lt_of_cell? _ _ n_0; dsimp only at hsN
            go_upto_region 9 with fail
            refine (hc.out).mono ?_
            rintro e w5 ⟨r5, bs5, rfl, O5, nd5, f5, hb⟩
            have R5 := GCode.ok.read (lo := 0) O5 (fun b _ => Nat.zero_le b)
            obtain ⟨xa, xc, xb, xd, rfl⟩ := R5.form
            clear R5
            have N5 := N.below hb
            have N5W := NW.below hb
            have hw5 := hw.trans (hb.mono hw.size)
            have n5f_0 := N5W.frz 0 (by omega); have n5f_1 := N5W.frz 1 (by omega); obtain ⟨n5_0, n5_1⟩ := N5.box2; have hsN5 := World.block_lt_of_cell? _ _ n5_0; dsimp only at hsN5
            dsimp only
            replace O5 := Lib.hid O5; replace nd5 := Lib.hid nd5; replace f5 := Lib.hid f5
            go_upto_region 9 with fail
            obtain ⟨w6, hW6, g_0, g_1, K6, b6⟩ := set2_box (lo := w.heap.size) (.slice xa D'.ins.length xc) (.slice xb D'.pats.length xd) n5_0 n5_1 (by omega)
            rw [← hW6]
            have W6 : Wr w6 bN 0 2 := by rw [hW6]; exact (N5W.set 0 _).set 1 _
            clear hW6
            go_wp2_with fail
            go_roundw
            case rel => exact cont.out xa xc xb xd bs5 w5 w6 O5.out nd5.out f5.out hb K6 b6 W6 g_0 g_1
            case measure => simp [intOf]
        · obtain rfl : j = 3 := by omega
          obtain ⟨O3, nd3, f3⟩ := hOj.out (by omega)
          have hDp : D = passP cur := hD.out
          have hFs := hF.out
          obtain ⟨k, rfl⟩ : ∃ k', k = k' + 1 := ⟨k - 1, by omega⟩
          unfold peepF at hFs
          rw [← hDp, ← hl.out] at hFs
          have hDl : D.ins.length ≤ l := by rw [hDp, hl.out]; exact (passP_sub cur).1
          have hSd : CodeCopy D := by rw [hDp]; exact (passP_sub cur).copy hSc.out
          have O3' := O3
          replace O3 := Lib.hid O3; replace nd3 := Lib.hid nd3; replace f3 := Lib.hid f3; replace hDp := Lib.hid hDp; replace hSd := Lib.hid hSd; replace hFs := Lib.hid hFs
          clear O3' hst hss hOj hRj
          have nf_0 := NW.frz 0 (by omega); have nf_1 := NW.frz 1 (by omega); obtain ⟨n_0, n_1⟩ := N.box2; have hsN := World.block_lt_of_cell? _ _ n_0; dsimp only at hsN; have if_0 := IW.frz 0 (by omega); have if_1 := IW.frz 1 (by omega); obtain ⟨i_0, i_1⟩ := I.box2; have hsI := World.block_lt_of_cell? _ _ i_0; dsimp only at hsI; have ef_0 := EW.frz 0 (by omega); have ef_1 := EW.frz 1 (by omega); obtain ⟨e_0, e_1⟩ := E.box2; have hsE := World.block_lt_of_cell? _ _ e_0; dsimp only at hsE
          by_cases hless : D.ins.length < l
          · have d1 : decide ((D.ins.length : Int) < (l : Int)) = true := decide_eq_true (by omega)
            have d2 : decide (D.ins.length < l) = true := decide_eq_true hless
            have hR7 := hFs.out
            rw [if_pos hless] at hR7
            replace hR7 := Lib.hid hR7
            go_upto_region 12 with fail
            obtain ⟨w6, hW6, g_0, g_1, K6, b6⟩ := set2_box (lo := w.heap.size) (.slice va D.ins.length vc) (.slice vb D.pats.length vd) i_0 i_1 (by omega)
            rw [← hW6]
            have W6 : Wr w6 bI 0 2 := by rw [hW6]; exact (IW.set 0 _).set 1 _
            clear hW6
            go_wp2_with fail
            go_roundw
            case rel => exact ⟨k, D, va, vc, vb, vd, by omega, hw.trans b6, Nat.lt_of_lt_of_le (by omega) b6.size, C.kept K6 (by omega), E.kept K6 (by omega), EW.kept K6 (by omega), RowAt.two g_0 g_1, W6, GCode.ok.read (GCode.ok.kept O3.out K6 (fun b hb e => by have := f3.out b hb; omega)) (fun b _ => Nat.zero_le b), hSd, hR7⟩
            case measure => rw [hM.out, insLen_eq g_0]; exact hless
          · have d1 : decide ((D.ins.length : Int) < (l : Int)) = false := decide_eq_false (by omega)
            have d2 : decide (D.ins.length < l) = false := decide_eq_false hless
            have hR7 := hFs.out
            rw [if_neg hless] at hR7
            replace hR7 := Lib.hid hR7
            go_upto_region 12 with fail
            obtain ⟨w6, hW6, g_0, g_1, K6, b6⟩ := set2_box (lo := w.heap.size) (.slice va D.ins.length vc) (.slice vb D.pats.length vd) i_0 i_1 (by omega)
            rw [← hW6]
            have E6 := E.kept K6 (by omega)
            have E6W := EW.kept K6 (by omega)
            have O6 := GCode.ok.kept O3.out K6 (fun b hb e => by have := f3.out b hb; omega)
            have hw6 := hw.trans b6
            clear hW6 e_0 e_1 ef_0 ef_1 hsE
            replace O6 := Lib.hid O6
            have e6f_0 := E6W.frz 0 (by omega); have e6f_1 := E6W.frz 1 (by omega); obtain ⟨e6_0, e6_1⟩ := E6.box2; have hsE6 := World.block_lt_of_cell? _ _ e6_0; dsimp only at hsE6
            go_wp2_with fail
            obtain ⟨w9, hw9, j_0, j_1, k9, b9⟩ := set2_box (lo := w.heap.size) (.slice va D.ins.length vc) (.slice vb D.pats.length vd) e6_0 e6_1 (by omega)
            rw [← hw9]
            refine bodyPost_ret (ret_code (a := 2) Tryz.results7 rfl j_0 j_1) rfl ?_
            rw [← hR7.out]
            exact CopyPost.stored O6.out nd3.out (fun b hb => by have := f3.out b hb; omega) k9 (hw6.trans b9)

end Go.Proofs.YtfobkbjabenkkaaGreat
