/- DrawPoolMake. -/
import Derived.Test.YtajbgkpjmgmdhaaDraw8
import Derived.Test.YtajbgkpjmgmdhaaPoolMk
namespace Go.Proofs.Ytajbgkpjmgmdhaa
open Go.RowKit
set_option linter.unusedVariables false
set_option linter.unusedSimpArgs false
attribute [local go_sem] Ext.cell

theorem PAny.lower {B lo lo' : Nat} {w : World} {v0 v1 : Value} {p : GPool} (h : PAny B lo w v0 v1 p) (hl : lo' ≤ lo) : PAny B lo' w v0 v1 p :=
  ⟨h.cells.mono hl, h.free.imp (fun h => h.lower hl) (fun ⟨h0, g, o, c, h1, h2, h3, h4⟩ => ⟨h0, g, o, c, h1, h2, by omega, h4⟩), h.f64, h.apart, h.len, h.small, h.many⟩
def DmPost (w : World) (e : Ending) (w' : World) : Prop :=
  ∃ (v0 v1 : Value) (p : GPool) (c : GCell) (B : Nat), e = .returned (.tuple #[.agg #[v0, v1], .agg #[.int .i64 c.kind, .int .i64 c.n, .string c.s, .int .i64 c.a.kind, .int .i64 c.a.n, .string c.a.s, .int .i64 c.b.kind, .int .i64 c.b.n, .string c.b.s]]) ∧ PAny B w.heap.size w' v0 v1 p ∧ SmallC c ∧ Below w.heap.size w w'
set_option maxRecDepth 100000 in
set_option maxHeartbeats 16000000 in
theorem drawPoolMake_c (w : World) (u : Value) (bs : List UInt8) (hu : Sl ByteR 1 0 w u bs) (hlen : bs.length ≤ 1048576) :
    Calls Try.prog 8 #[u] w (DmPost w) := by
  have Hu := hu
  obtain ⟨ua, uc, rfl⟩ := hu.form
  clear hu
  go_enter Try.func8, Try.ntmps8
  go_upto_region 1 with fail
  have E : RowAt (w.alloc (.cells #[.slice none 0 0, .slice none 0 0] 26)) (w.heap.size) 0 [.slice none 0 0, .slice none 0 0] := RowAt.box w #[.slice none 0 0, .slice none 0 0] 26
  have EW : Wr (w.alloc (.cells #[.slice none 0 0, .slice none 0 0] 26)) (w.heap.size) 0 2 := Wr.box w #[.slice none 0 0, .slice none 0 0] 26
  have E := E.below (show Below (w.alloc (.cells #[.slice none 0 0, .slice none 0 0] 26)).heap.size (w.alloc (.cells #[.slice none 0 0, .slice none 0 0] 26)) ((w.alloc (.cells #[.slice none 0 0, .slice none 0 0] 26)).alloc (.cells #[.int .i64 0, .int .i64 0, .string ⟨#[]⟩, .int .i64 0, .int .i64 0, .string ⟨#[]⟩, .int .i64 0, .int .i64 0, .string ⟨#[]⟩] 30)) by go_grown)
  have EW := EW.below (show Below (w.alloc (.cells #[.slice none 0 0, .slice none 0 0] 26)).heap.size (w.alloc (.cells #[.slice none 0 0, .slice none 0 0] 26)) ((w.alloc (.cells #[.slice none 0 0, .slice none 0 0] 26)).alloc (.cells #[.int .i64 0, .int .i64 0, .string ⟨#[]⟩, .int .i64 0, .int .i64 0, .string ⟨#[]⟩, .int .i64 0, .int .i64 0, .string ⟨#[]⟩] 30)) by go_grown)
  have F : RowAt ((w.alloc (.cells #[.slice none 0 0, .slice none 0 0] 26)).alloc (.cells #[.int .i64 0, .int .i64 0, .string ⟨#[]⟩, .int .i64 0, .int .i64 0, .string ⟨#[]⟩, .int .i64 0, .int .i64 0, .string ⟨#[]⟩] 30)) (w.heap.size + 1) 0 [.int .i64 0, .int .i64 0, .string ⟨#[]⟩, .int .i64 0, .int .i64 0, .string ⟨#[]⟩, .int .i64 0, .int .i64 0, .string ⟨#[]⟩] := by have h := RowAt.box (w.alloc (.cells #[.slice none 0 0, .slice none 0 0] 26)) #[.int .i64 0, .int .i64 0, .string ⟨#[]⟩, .int .i64 0, .int .i64 0, .string ⟨#[]⟩, .int .i64 0, .int .i64 0, .string ⟨#[]⟩] 30; simp only [World.size_alloc] at h; exact h
  have FW : Wr ((w.alloc (.cells #[.slice none 0 0, .slice none 0 0] 26)).alloc (.cells #[.int .i64 0, .int .i64 0, .string ⟨#[]⟩, .int .i64 0, .int .i64 0, .string ⟨#[]⟩, .int .i64 0, .int .i64 0, .string ⟨#[]⟩] 30)) (w.heap.size + 1) 0 9 := by have h := Wr.box (w.alloc (.cells #[.slice none 0 0, .slice none 0 0] 26)) #[.int .i64 0, .int .i64 0, .string ⟨#[]⟩, .int .i64 0, .int .i64 0, .string ⟨#[]⟩, .int .i64 0, .int .i64 0, .string ⟨#[]⟩] 30; simp only [World.size_alloc] at h; exact h
  have hw : Below w.heap.size w ((w.alloc (.cells #[.slice none 0 0, .slice none 0 0] 26)).alloc (.cells #[.int .i64 0, .int .i64 0, .string ⟨#[]⟩, .int .i64 0, .int .i64 0, .string ⟨#[]⟩, .int .i64 0, .int .i64 0, .string ⟨#[]⟩] 30)) := by go_grown
  generalize ((w.alloc (.cells #[.slice none 0 0, .slice none 0 0] 26)).alloc (.cells #[.int .i64 0, .int .i64 0, .string ⟨#[]⟩, .int .i64 0, .int .i64 0, .string ⟨#[]⟩, .int .i64 0, .int .i64 0, .string ⟨#[]⟩] 30)) = w0 at *
  have hs0 := hw.size
  have hsE := World.block_lt_of_cell? _ _ F.box9.1; dsimp only at hsE
  replace Hu := Lib.hid Hu
  go_upto_region 2 with (go_at_call 35; (with_reducible refine (l01New_c w w0 _ bs Hu.out hlen hw).mono ?_); rintro e w1 ⟨b, rfl, hb0, C1, hb1⟩)
  have hbl := C1.lt
  have hz1 := hb1.size
  go_upto_region 3 with (go_at_call 36; (with_reducible refine (l20Any_c w _ b C1).mono ?_); rintro e w2 ⟨v0, v1, vr, p, vs, B, B2, rfl, PA, TR, hvl, hvs, D2⟩; obtain ⟨xa, xc, rfl⟩ := PA.cells.form; obtain ⟨ya, yc, rfl⟩ := PA.free.form; obtain ⟨ra, rc, rfl⟩ := TR.form)
  have hz2 := D2.size
  have hpb := PA.blocks
  obtain ⟨w3, hW3⟩ : ∃ W, W = w2.alloc (.cells #[.slice xa p.cells.length xc, .slice ya p.free.length yc] 26) := ⟨_, rfl⟩
  rw [← hW3]
  have hb3 : Below w2.heap.size w2 w3 := by rw [hW3]; go_grown
  have RB : RowAt w3 w2.heap.size 0 [.slice xa p.cells.length xc, .slice ya p.free.length yc] := by rw [hW3]; exact RowAt.box w2 #[_, _] _
  have D3 := D2.below hb3
  have P3 := PA.below hb3
  have hbP3 : w2.heap.size < w3.heap.size := World.block_lt_of_cell? _ _ RB.box2.1
  clear hW3 TR PA hb3
  generalize w2.heap.size = bP at *
  go_upto_region 4 with (go_at_call 37; (with_reducible refine (l11Draw_c w _ b D3.cur).mono ?_); rintro e w4 ⟨h0, h1, cs, hvs2, rfl, OH, OHV, hcs, hsm, D4⟩; obtain ⟨ha, hc, rfl⟩ := OH.form; obtain ⟨hva, hvc, rfl⟩ := OHV.form)
  have hz4 := D4.size
  obtain ⟨w5, hW5⟩ : ∃ W, W = w4.alloc (.cells #[.int .i64 5, .int .i64 0, .string ⟨#[]⟩, .int .i64 3, .int .i64 0, .string ⟨#[]⟩, .int .i64 0, .int .i64 0, .string ⟨#[]⟩] 30) := ⟨_, rfl⟩
  have hb5 : Below w4.heap.size w4 w5 := by rw [hW5]; go_grown
  have X5 : RowAt w5 w4.heap.size 0 [.int .i64 5, .int .i64 0, .string ⟨#[]⟩, .int .i64 3, .int .i64 0, .string ⟨#[]⟩, .int .i64 0, .int .i64 0, .string ⟨#[]⟩] := by rw [hW5]; exact RowAt.box w4 #[_, _, _, _, _, _, _, _, _] _
  have XW5 : Wr w5 w4.heap.size 0 9 := by rw [hW5]; exact Wr.box w4 #[_, _, _, _, _, _, _, _, _] _
  have D5 := D4.below hb5
  have OH5 := OH.below hb5
  go_upto_region 5 with fail
  rw [← hW5]
  clear hW5 hb5
  have hql : w4.heap.size < w5.heap.size := World.block_lt_of_cell? _ _ X5.box9.1
  have P5 := P3.kept D5.kept D5.size (fun g hg e => by have := hpb g (.inl hg); omega) (fun g hg e => by have := hpb g (.inr hg); omega)
  have RB5 := RB.kept D5.kept (by omega)
  have DD := D3.trans D5
  have KE : Kept (· = b) w0 w5 := (Kept.below hb1).trans hb1.size DD.kept
  have E5 := E.kept KE (by omega); have EW5 := EW.kept KE (by omega)
  have F5 := F.kept KE (by omega); have FW5 := FW.kept KE (by omega)
  have hbw : b < w3.heap.size := D3.cur.lt
  replace hsm := Lib.hid hsm; replace OH5 := Lib.hid OH5; replace P5 := Lib.hid P5; replace DD := Lib.hid DD
  clear E EW F FW RB P3 D3 D4 D2 OH OHV KE C1 hb1
  generalize w4.heap.size = qx at *
  have hA0 : SmallC ⟨5, 0, ⟨#[]⟩, ⟨3, 0, ⟨#[]⟩⟩, ⟨0, 0, ⟨#[]⟩⟩⟩ := small_mk (by constructor <;> omega) (by constructor <;> omega) (by decide) (seqv_wf _ _ _ (by omega) (by constructor <;> omega) (by decide)) small_zero
  replace hA0 := Lib.hid hA0
  go_upto_if 26 with fail
  go_cut [9] (fun s wx => s = .pointer (some ⟨qx, 0, none⟩) ∧ ∃ c : GCell, Kept (fun q => q = b ∨ q = qx) w5 wx ∧ Below w.heap.size w wx ∧ w5.heap.size ≤ wx.heap.size ∧ RowAt wx qx 0 [.int .i64 c.kind, .int .i64 c.n, .string c.s, .int .i64 c.a.kind, .int .i64 c.a.n, .string c.a.s, .int .i64 c.b.kind, .int .i64 c.b.n, .string c.b.s] ∧ SmallC c)
  case first =>
    by_cases h0 : 0 < cs.length
    · have hd : decide (0 < cs.length) = true := decide_eq_true h0
      obtain ⟨gh, ch, hv, hg1, hg2, _, _, hR, _⟩ := own_cells OH5.out.1 h0
      obtain ⟨rfl, rfl⟩ : ha = some ⟨gh, 0, none⟩ ∧ hc = ch := by injection hv with e1 e2 e3; exact ⟨e1, e3⟩
      clear hv
      replace hR := Lib.hid hR
      have D5c : Cur w w5 b := DD.out.cur
      go_wp2_with (go_at_call 38; (with_reducible refine (l01Below_c w _ b (cs.length : Int) (by omega) D5c).mono ?_); rintro e w6 ⟨z, rfl, hz0, hz1', hz2', D6⟩; obtain ⟨kz, rfl⟩ := Int.eq_ofNat_of_zero_le hz0; have hkz : kz < cs.length := (by have := hz1' (by omega); omega); obtain ⟨c, hcc⟩ : ∃ c, cs[kz]? = some c := ⟨_, List.getElem?_eq_getElem hkz⟩; have hsc := Lib.hid (hsm.out c (List.mem_of_getElem? hcc)); have hget : ∀ j' u', (cellRow c)[j']? = some u' → w6.cell? ⟨gh, kz * 9 + j', none⟩ = some u' := (fun j' u' hj' => by have := (hR.out.kept D6.kept (by omega)) (kz * 9 + j') u' (flatCell.get hcc hj'); rwa [Nat.zero_add] at this); have k0 := hget 0 _ rfl; have k1 := hget 1 _ rfl; have k2 := hget 2 _ rfl; have k3 := hget 3 _ rfl; have k4 := hget 4 _ rfl; have k5 := hget 5 _ rfl; have k6 := hget 6 _ rfl; have k7 := hget 7 _ rfl; have k8 := hget 8 _ rfl; rw [Nat.add_zero] at k0; have X6 := X5.kept D6.kept (by omega); have XW6 := XW5.kept D6.kept (by omega); obtain ⟨d_0, d_1, d_2, d_3, d_4, d_5, d_6, d_7, d_8⟩ := X6.box9; have f_0 := XW6.frz 0 (by omega); have f_1 := XW6.frz 1 (by omega); have f_2 := XW6.frz 2 (by omega); have f_3 := XW6.frz 3 (by omega); have f_4 := XW6.frz 4 (by omega); have f_5 := XW6.frz 5 (by omega); have f_6 := XW6.frz 6 (by omega); have f_7 := XW6.frz 7 (by omega); have f_8 := XW6.frz 8 (by omega); clear hget)
      go_meet
      have hk9 := nine_kept (w := w6) (b := qx) (.int .i64 c.kind) (.int .i64 c.n) (.string c.s) (.int .i64 c.a.kind) (.int .i64 c.a.n) (.string c.a.s) (.int .i64 c.b.kind) (.int .i64 c.b.n) (.string c.b.s)
      exact ⟨rfl, c, (D6.kept.mono (fun q h => .inl h)).trans D6.size (hk9.1.mono (fun q h => .inr h)), D6.cur.below.trans (hk9.2 _ (by omega)), Nat.le_trans D6.size (hk9.2 0 (Nat.zero_le _)).size, nine_row X6 _ _ _ _ _ _ _ _ _, hsc.out⟩
    · have hd : decide (0 < cs.length) = false := decide_eq_false h0
      go_wp2_with fail
      go_meet
      exact ⟨rfl, ⟨5, 0, ⟨#[]⟩, ⟨3, 0, ⟨#[]⟩⟩, ⟨0, 0, ⟨#[]⟩⟩⟩, Kept.refl _ _, DD.out.cur.below, Nat.le_refl _, X5, hA0.out⟩
  obtain ⟨rfl, c, K6, hB6, hz6, X, hcS⟩ := hcut
  obtain ⟨w7, rfl⟩ : ∃ W, W = wc := ⟨_, rfl⟩
  have nE : ∀ q, q < w0.heap.size → ¬ (q = b ∨ q = qx) := fun q hq h => by omega
  have E7 := E5.kept K6 (nE _ (by omega)); have EW7 := EW5.kept K6 (nE _ (by omega))
  have F7 := F5.kept K6 (nE _ (by omega)); have FW7 := FW5.kept K6 (nE _ (by omega))
  have nP : ¬ (bP = b ∨ bP = qx) := by omega
  have R7 := RB5.kept K6 nP
  have P7 := P5.out.kept K6 hz6 (fun g hg e => by have := hpb g (.inl hg); omega) (fun g hg e => by have := hpb g (.inr hg); omega)
  clear E5 EW5 F5 FW5 RB5 P5 K6 OH5 X5 XW5 DD nE hsm hA0
  obtain ⟨e_0, e_1⟩ := E7.box2
  have ef_0 := EW7.frz 0 (by omega); have ef_1 := EW7.frz 1 (by omega)
  obtain ⟨g_0, g_1, g_2, g_3, g_4, g_5, g_6, g_7, g_8⟩ := F7.box9
  have gf_0 := FW7.frz 0 (by omega); have gf_1 := FW7.frz 1 (by omega); have gf_2 := FW7.frz 2 (by omega); have gf_3 := FW7.frz 3 (by omega); have gf_4 := FW7.frz 4 (by omega); have gf_5 := FW7.frz 5 (by omega); have gf_6 := FW7.frz 6 (by omega); have gf_7 := FW7.frz 7 (by omega); have gf_8 := FW7.frz 8 (by omega)
  obtain ⟨r_0, r_1⟩ := R7.box2
  obtain ⟨x_0, x_1, x_2, x_3, x_4, x_5, x_6, x_7, x_8⟩ := X.box9
  have n1 : bP ≠ w.heap.size := by omega
  have n2 : bP ≠ w.heap.size + 1 := by omega
  have n3 : qx ≠ w.heap.size := by omega
  have n4 : qx ≠ w.heap.size + 1 := by omega
  have n5 : w.heap.size ≠ w.heap.size + 1 := by omega
  replace P7 := Lib.hid P7; replace hcS := Lib.hid hcS
  go_upto_region 7 with fail
  go_region_law (fail)
  all_goals
    obtain ⟨w8, hW8⟩ : ∃ W, W = (w7.setCell ⟨w.heap.size, 0, none⟩ (.slice xa p.cells.length xc)).setCell ⟨w.heap.size, 1, none⟩ (.slice ya p.free.length yc) := ⟨_, rfl⟩
    rw [← hW8]
    have K8 : Kept (· = w.heap.size) w7 w8 := by rw [hW8]; exact Kept.set (S := (· = w.heap.size)) (p := ⟨w.heap.size, 1, none⟩) (Kept.set (S := (· = w.heap.size)) (p := ⟨w.heap.size, 0, none⟩) (Kept.refl _ _) rfl _) rfl _
    have E8 : RowAt w8 w.heap.size 0 [.slice xa p.cells.length xc, .slice ya p.free.length yc] := by rw [hW8]; exact (E7.putAt (j := 0) (by simp) _).putAt (j := 1) (by simp) _
    have F8 := F7.kept K8 (by omega)
    have P8 := P7.out.kept K8 (by rw [hW8]; simp [World.setCell]) (fun g hg e => by have := hpb g (.inl hg); omega) (fun g hg e => by have := hpb g (.inr hg); omega)
    have hB8 : Below w.heap.size w w8 := by rw [hW8]; exact below_set2 hB6 (Nat.le_refl _) _ _
    have hz8 : w7.heap.size ≤ w8.heap.size := by rw [hW8]; simp [World.setCell]
    clear hW8
    have hk9 := nine_kept (w := w8) (b := w.heap.size + 1) (.int .i64 c.kind) (.int .i64 c.n) (.string c.s) (.int .i64 c.a.kind) (.int .i64 c.a.n) (.string c.a.s) (.int .i64 c.b.kind) (.int .i64 c.b.n) (.string c.b.s)
    have F9 := nine_row F8 (.int .i64 c.kind) (.int .i64 c.n) (.string c.s) (.int .i64 c.a.kind) (.int .i64 c.a.n) (.string c.a.s) (.int .i64 c.b.kind) (.int .i64 c.b.n) (.string c.b.s)
    obtain ⟨w9, hW9⟩ : ∃ W, W = ((((((((w8.setCell ⟨w.heap.size + 1, 0, none⟩ (.int .i64 c.kind)).setCell ⟨w.heap.size + 1, 1, none⟩ (.int .i64 c.n)).setCell ⟨w.heap.size + 1, 2, none⟩ (.string c.s)).setCell ⟨w.heap.size + 1, 3, none⟩ (.int .i64 c.a.kind)).setCell ⟨w.heap.size + 1, 4, none⟩ (.int .i64 c.a.n)).setCell ⟨w.heap.size + 1, 5, none⟩ (.string c.a.s)).setCell ⟨w.heap.size + 1, 6, none⟩ (.int .i64 c.b.kind)).setCell ⟨w.heap.size + 1, 7, none⟩ (.int .i64 c.b.n)).setCell ⟨w.heap.size + 1, 8, none⟩ (.string c.b.s) := ⟨_, rfl⟩
    rw [← hW9] at hk9 F9 ⊢
    clear hW9
    have E9 := E8.kept hk9.1 (by omega)
    have P9 := P8.kept hk9.1 (hk9.2 0 (Nat.zero_le _)).size (fun g hg e => by have := hpb g (.inl hg); omega) (fun g hg e => by have := hpb g (.inr hg); omega)
    have hB9 : Below w.heap.size w w9 := hB8.trans (hk9.2 _ (by omega))
    clear e_0 e_1 g_0 g_1 g_2 g_3 g_4 g_5 g_6 g_7 g_8 r_0 r_1 x_0 x_1 x_2 x_3 x_4 x_5 x_6 x_7 x_8
    obtain ⟨e_0, e_1⟩ := E9.box2
    obtain ⟨g_0, g_1, g_2, g_3, g_4, g_5, g_6, g_7, g_8⟩ := F9.box9
    replace P9 := Lib.hid P9
    go_wp2_with fail
    refine bodyPost_ret (v := .tuple #[.agg #[.slice xa p.cells.length xc, .slice ya p.free.length yc], .agg #[.int .i64 c.kind, .int .i64 c.n, .string c.s, .int .i64 c.a.kind, .int .i64 c.a.n, .string c.a.s, .int .i64 c.b.kind, .int .i64 c.b.n, .string c.b.s]]) (by simp [results, Try.results8, go_sem, e_0, e_1, g_0, g_1, g_2, g_3, g_4, g_5, g_6, g_7, g_8]) rfl ?_
    exact ⟨_, _, p, c, B, rfl, (P9.out.lower (show w.heap.size ≤ w1.heap.size by omega)).below (Below.refl _ w9).drew, hcS.out, by first | exact hB9 | exact hB9.drew⟩

end Go.Proofs.Ytajbgkpjmgmdhaa
