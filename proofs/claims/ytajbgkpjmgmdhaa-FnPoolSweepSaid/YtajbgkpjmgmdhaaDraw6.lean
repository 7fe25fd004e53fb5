/- l20Draw: a drawn pool. -/
import Derived.Test.YtajbgkpjmgmdhaaDraw5
namespace Go.Proofs.Ytajbgkpjmgmdhaa
open Go.RowKit
set_option linter.unusedVariables false
set_option linter.unusedSimpArgs false
attribute [local go_sem] Ext.cell

def PdPost (W0 w : World) (b : Nat) (e : Ending) (w' : World) : Prop :=
  ∃ (v0 v1 vr : Value) (p : GPool) (vs : List GVal) (B : Nat), e = .returned (.tuple #[.agg #[v0, v1], vr]) ∧ OwnPool w.heap.size w' v0 v1 p ∧ PSmall p ∧ Tail B w' w.heap.size 28 3 vr vs.length (rowsOf valRow vs) ∧ B + vs.length ≤ 100 ∧ (∀ v ∈ vs, SmallV v) ∧ (∀ g, v0.ownBlock = some g ∨ v1.ownBlock = some g → vr.ownBlock ≠ some g) ∧ DF W0 b w w'
set_option maxRecDepth 100000 in
set_option maxHeartbeats 16000000 in
theorem l20Draw_c (W0 w : World) (b : Nat) (C : Cur W0 w b) :
    Calls Try.prog 69 #[.pointer (some ⟨b, 0, none⟩)] w (PdPost W0 w b) := by
  have hbl := C.lt
  obtain ⟨j0, hi0, hz0, hz1, hz2⟩ := info_parts info_ValS
  have J := Lib.hid hi0; have J0 := Lib.hid hz0; have J1 := Lib.hid hz1; have J2 := Lib.hid hz2
  clear hi0 hz0 hz1 hz2
  go_enter Try.func69, Try.ntmps69
  go_upto_region 1 with fail
  have E : RowAt (w.alloc (.cells #[.slice none 0 0, .slice none 0 0] 26)) (w.heap.size) 0 [.slice none 0 0, .slice none 0 0] := RowAt.box w #[.slice none 0 0, .slice none 0 0] 26
  have EW : Wr (w.alloc (.cells #[.slice none 0 0, .slice none 0 0] 26)) (w.heap.size) 0 2 := Wr.box w #[.slice none 0 0, .slice none 0 0] 26
  have hw : Below w.heap.size w (w.alloc (.cells #[.slice none 0 0, .slice none 0 0] 26)) := by go_grown
  generalize (w.alloc (.cells #[.slice none 0 0, .slice none 0 0] 26)) = w0 at *
  have D0 : DF W0 b w w0 := (DF.refl C).below hw
  have hs0 := hw.size
  have hsE := World.block_lt_of_cell? _ _ E.box2.1; dsimp only at hsE
  replace C := Lib.hid C
  go_upto_region 2 with (first
    | (go_at_call 38; (with_reducible refine (l01Below_c W0 _ b 9 (by omega) D0.cur).mono ?_); rintro e w1 ⟨x, rfl, hx0, hx1, hx2, D1⟩; obtain ⟨x, rfl⟩ := Int.eq_ofNat_of_zero_le hx0; have hx9 : x < 9 := (by omega); have hwx : IntKind.i64.wrap (2 + (x : Int)) = 2 + (x : Int) := (IntWalk.i64_in _ (by omega)); have hPN := poolNew_o (2 + x) (by omega) w1; rw [show ((2 + x : Nat) : Int) = 2 + (x : Int) by omega] at hPN; replace hPN := Lib.hid hPN; clear hx0 hx1 hx2)
    | (go_at_call 85; (with_reducible refine (hPN.out).mono ?_); rintro e w2 ⟨v0, v1, rfl, OP, hb2⟩; obtain ⟨p, hp⟩ : ∃ p : GPool, p = ⟨List.replicate (2 + x) zeroC, downsI (2 + x) (2 + x)⟩ := ⟨_, rfl⟩; rw [← hp] at OP; have hps : PSmall p := hp ▸ PSmall.new (by omega); clear hp; obtain ⟨xa, xc, rfl⟩ := OP.cells.form; obtain ⟨ya, yc, rfl⟩ := OP.free.form))
  obtain ⟨w3, hW3⟩ : ∃ W, W = w2.alloc (.cells #[.slice xa p.cells.length xc, .slice ya p.free.length yc] 26) := ⟨_, rfl⟩
  rw [← hW3]
  have hb3 : Below w2.heap.size w2 w3 := by rw [hW3]; go_grown
  have RB : RowAt w3 w2.heap.size 0 [.slice xa p.cells.length xc, .slice ya p.free.length yc] := by rw [hW3]; exact RowAt.box w2 #[_, _] _
  have WB : Wr w3 w2.heap.size 0 2 := by rw [hW3]; exact Wr.box w2 #[_, _] _
  clear hW3
  go_upto_region 3 with fail
  obtain ⟨w4, hW4⟩ : ∃ W, W = w3.alloc (.cells #[] 28) := ⟨_, rfl⟩
  rw [← hW4]
  have hb4 : Below w3.heap.size w3 w4 := by rw [hW4]; go_grown
  have hz1 := D1.size; have hz2 := hb2.size; have hz3 := hb3.size
  have L0 : LS W0 w b w2.heap.size w4 (.slice (some ⟨w3.heap.size, 0, none⟩) 0 0) [] (.slice xa p.cells.length xc) (.slice ya p.free.length yc) p 0 := by
    have D3 := ((D0.trans D1).below hb2).below hb3
    have hbp := OP.blocks
    have hTO : Tail 0 w4 w.heap.size 28 3 (.slice (some ⟨w3.heap.size, 0, none⟩) 0 0) 0 [] := Tail.of (by
      have h1 := own_new w3 #[] 28 3 0 rfl (by unfold maxLen; omega) w.heap.size D3.size
      rw [hW4]; simpa using h1)
    have hlt3 : w2.heap.size < w3.heap.size := World.block_lt_of_cell? _ _ RB.box2.1
    have E4 := E.kept (((D1.below hb2).below hb3).below hb4).kept (by omega)
    have EW4 := EW.kept (((D1.below hb2).below hb3).below hb4).kept (by omega)
    refine ⟨D3.below hb4, hbl, RB.below hb4, WB.below hb4, by omega, ((OP.mono (by omega)).below hb3).below hb4, hps, hTO, (fun v hv => by cases hv), fun g hg => ?_, fun g hg => ?_, E4, EW4⟩
    · have := hbp g hg
      refine ⟨by omega, by omega, fun e => ?_⟩
      obtain rfl : w3.heap.size = g := by simpa [Value.ownBlock] using e
      omega
    · obtain rfl : w3.heap.size = g := by simpa [Value.ownBlock] using hg
      omega
  clear hW4 hb3 hb4 hb2 hz2 hz3 OP RB WB E EW D0 D1 hwx hPN hz1 hps
  generalize w2.heap.size = bP at *
  generalize w3.heap.size = bR at *
  go_upto_region 4 with (go_at_call 38; (with_reducible refine (l01Below_c W0 _ b 14 (by omega) L0.df.cur).mono ?_); rintro e w5 ⟨y, rfl, hx0, hx1, hx2, D5⟩)
  obtain ⟨t, rfl⟩ := Int.eq_ofNat_of_zero_le hx0
  have ht : t < 14 := by omega
  have L5 := Lib.hid (L0.next D5)
  clear L0 D5 hx0 hx1 hx2
  go_loopw [7, 6] (fun ii rv wx => ∃ (j : Nat) (vr v0 v1 : Value) (vs : List GVal) (p : GPool) (B : Nat), j ≤ t ∧ ii = .int .i64 (j : Int) ∧ rv = vr ∧ vs.length + j ≤ t ∧ B + j ≤ t ∧ LS W0 w b bP wx vr vs v0 v1 p B) (fun ii _ _ => (intOf ii).toNat)
  case atStart => exact ⟨t, _, _, _, [], p, 0, Nat.le_refl _, rfl, rfl, by simp, by omega, L5.out⟩
  case round =>
    clear L5
    obtain ⟨j, vr, v0, v1, vs, p, B, hj, rfl, rfl, hl, hB, L⟩ := hrel
    obtain ⟨xa, xc, rfl⟩ := L.own.cells.form
    obtain ⟨ya, yc, rfl⟩ := L.own.free.form
    obtain ⟨ra, rc, rfl⟩ := L.tail.form
    have hbP := L.lt
    have hsz := L.df.size
    have hb1 := L.bP1
    by_cases hj0 : 0 < j
    · replace L := Lib.hid L
      go_upto_region 6 with fail
      go_cut [30] (fun s wx => (∃ q : Bool, s = .bool q) ∧ LS W0 w b bP wx (.slice ra vs.length rc) vs (.slice xa p.cells.length xc) (.slice ya p.free.length yc) p B)
      case first =>
        go_wp2_with (go_at_call 38; (with_reducible refine (l01Below_c W0 _ b 6 (by omega) L.out.df.cur).mono ?_); rintro e w6 ⟨y, rfl, hx0, hx1, hx2, D6⟩)
        go_meet
        exact ⟨⟨_, rfl⟩, L.out.next D6⟩
      obtain ⟨⟨q, rfl⟩, L⟩ := hcut
      cases q with
      | true =>
        obtain ⟨p_0, p_1⟩ := L.box.box2
        have hb2 := L.lt
        have cS := fun W (hW : Below wc.heap.size wc W) => spec_PoolSweep_c p vs _ _ w.heap.size w.heap.size L.small.bulk (by omega) W (GPool.good.below L.own.R hW) ((L.tail.sl flatVal (fun v hv => (L.vals v hv).1)).below GVal.good hW)
        replace cS := Lib.hid cS; replace L := Lib.hid L
        go_wp2_with (go_at_call 23; (with_reducible refine (cS.out _ (Below.refl _ _)).mono ?_); rintro e w7 ⟨u0, u1, rfl, OP, hb⟩; obtain ⟨ua, uc, rfl⟩ := OP.cells.form; obtain ⟨ta, tc, rfl⟩ := OP.free.form; have LN := L.out.pool OP (L.out.small.sweep vs) hb; have Lb := L.out.below hb; obtain ⟨q_0, q_1⟩ := Lb.box.box2; have qf_0 := Lb.wr.frz 0 (by omega); have qf_1 := Lb.wr.frz 1 (by omega); replace LN := Lib.hid LN; clear Lb)
        go_roundw
        case rel => exact ⟨j - 1, _, _, _, vs, _, B, by omega, by go_num, rfl, by omega, by omega, LN.out⟩
        case measure => simp [intOf]; omega
      | false =>
        replace L := Lib.hid L
        go_upto_region 9 with (go_at_call 37; (with_reducible refine (l11Draw_c W0 _ b L.out.df.cur).mono ?_); rintro e w7 ⟨h0, h1, cs, hvs, rfl, OH, OHV, hcs, hsm, D7⟩; obtain ⟨ha, hc, rfl⟩ := OH.form; obtain ⟨hva, hvc, rfl⟩ := OHV.form)
        have hLn := L.out.lt
        go_upto_region 10 with (go_at_call 38; (with_reducible refine (l01Below_c W0 _ b 9 (by omega) D7.cur).mono ?_); rintro e w8 ⟨z, rfl, hz0, hz1, hz2, D8⟩)
        have hz9 : z < 9 := hz1 (by omega)
        have L8 := (L.out.next D7).next D8
        have A := L8.ahead
        have hbw : b < wc.heap.size := by have := L.out.bw; have := L.out.df.size; omega
        have OH8 := OH.kept D8.kept (fun g hg e => by have := OH.base g hg; omega)
        obtain ⟨w9, hW9⟩ : ∃ W, W = w8.alloc (.cells #[.int .i64 5, .int .i64 0, .string ⟨#[]⟩, .int .i64 1, .int .i64 z, .string ⟨#[]⟩, .int .i64 0, .int .i64 0, .string ⟨#[]⟩] 30) := ⟨_, rfl⟩
        rw [← hW9]
        have hb9 : Below w8.heap.size w8 w9 := by rw [hW9]; go_grown
        have X9 : RowAt w9 w8.heap.size 0 [.int .i64 5, .int .i64 0, .string ⟨#[]⟩, .int .i64 1, .int .i64 z, .string ⟨#[]⟩, .int .i64 0, .int .i64 0, .string ⟨#[]⟩] := by rw [hW9]; exact RowAt.box w8 #[_, _, _, _, _, _, _, _, _] _
        have XW9 : Wr w9 w8.heap.size 0 9 := by rw [hW9]; exact Wr.box w8 #[_, _, _, _, _, _, _, _, _] _
        have L9 := L8.below hb9
        have OH9 := OH8.below hb9
        clear hW9 hb9 OH8 OH L8 D7 D8 hz1 hz2 OHV
        have hql : w8.heap.size < w9.heap.size := World.block_lt_of_cell? _ _ X9.box9.1
        generalize w8.heap.size = qx at *
        have hc0 : SmallC ⟨5, 0, ⟨#[]⟩, ⟨1, z, ⟨#[]⟩⟩, ⟨0, 0, ⟨#[]⟩⟩⟩ := small_mk (by constructor <;> omega) (by constructor <;> omega) (by decide) (seqv_wf _ _ _ (by omega) (by constructor <;> omega) (by decide)) small_zero
        replace L9 := Lib.hid L9; replace OH9 := Lib.hid OH9; replace A := Lib.hid A; replace hsm := Lib.hid hsm; replace hc0 := Lib.hid hc0
        clear L
        go_upto_if 48 with fail
        go_cut [10] (fun s wx => s = .pointer (some ⟨qx, 0, none⟩) ∧ ∃ c : GCell, LS W0 w b bP wx (.slice ra vs.length rc) vs (.slice xa p.cells.length xc) (.slice ya p.free.length yc) p B ∧ RowAt wx qx 0 [.int .i64 c.kind, .int .i64 c.n, .string c.s, .int .i64 c.a.kind, .int .i64 c.a.n, .string c.a.s, .int .i64 c.b.kind, .int .i64 c.b.n, .string c.b.s] ∧ Wr wx qx 0 9 ∧ SmallC c)
        case first =>
          by_cases h0 : 0 < cs.length
          · have hd : decide (0 < cs.length) = true := decide_eq_true h0
            obtain ⟨gh, ch, hv, hg1, hg2, _, _, hR, _⟩ := own_cells OH9.out.1 h0
            obtain ⟨rfl, rfl⟩ : ha = some ⟨gh, 0, none⟩ ∧ hc = ch := by injection hv with e1 e2 e3; exact ⟨e1, e3⟩
            obtain ⟨c, hcc⟩ : ∃ c, cs[0]? = some c := ⟨_, List.getElem?_eq_getElem h0⟩
            have hget : ∀ j' u', (cellRow c)[j']? = some u' → w9.cell? ⟨gh, j', none⟩ = some u' := fun j' u' hj' => by
              have := hR (0 * 9 + j') u' (flatCell.get hcc hj')
              simpa using this
            have k0 := hget 0 _ rfl; have k1 := hget 1 _ rfl; have k2 := hget 2 _ rfl; have k3 := hget 3 _ rfl; have k4 := hget 4 _ rfl; have k5 := hget 5 _ rfl; have k6 := hget 6 _ rfl; have k7 := hget 7 _ rfl; have k8 := hget 8 _ rfl
            have hcs1 := Lib.hid (hsm.out c (List.mem_of_getElem? hcc))
            obtain ⟨d_0, d_1, d_2, d_3, d_4, d_5, d_6, d_7, d_8⟩ := X9.box9
            have f_0 := XW9.frz 0 (by omega); have f_1 := XW9.frz 1 (by omega); have f_2 := XW9.frz 2 (by omega); have f_3 := XW9.frz 3 (by omega); have f_4 := XW9.frz 4 (by omega); have f_5 := XW9.frz 5 (by omega); have f_6 := XW9.frz 6 (by omega); have f_7 := XW9.frz 7 (by omega); have f_8 := XW9.frz 8 (by omega)
            clear hget hR hv
            go_wp2_with fail
            go_meet
            exact ⟨rfl, c, L9.out.setq A.out (nine_kept _ _ _ _ _ _ _ _ _), nine_row X9 _ _ _ _ _ _ _ _ _, XW9.nine _ _ _ _ _ _ _ _ _, hcs1.out⟩
          · have hd : decide (0 < cs.length) = false := decide_eq_false h0
            go_wp2_with fail
            go_meet
            exact ⟨rfl, _, L9.out, X9, XW9, hc0.out⟩
        obtain ⟨rfl, c, L, X, XW, hcS⟩ := hcut
        obtain ⟨w10, rfl⟩ : ∃ W, W = wc := ⟨_, rfl⟩
        obtain ⟨d_0, d_1, d_2, d_3, d_4, d_5, d_6, d_7, d_8⟩ := X.box9
        replace L := Lib.hid L; replace hcS := Lib.hid hcS
        clear hc0 OH9 hsm X9 XW9 L9
        go_upto_region 12 with fail
        go_cut [61] (fun s wx => (∃ q : Bool, s = .bool q) ∧ wx = w10)
        case first =>
          cases hk : (c.a.kind == 6)
          all_goals go_wp2_with fail
          all_goals go_meet
          all_goals first | exact ⟨⟨true, rfl⟩, rfl⟩ | exact ⟨⟨c.b.kind == 6, rfl⟩, rfl⟩ | exact ⟨true, rfl⟩ | exact ⟨c.b.kind == 6, rfl⟩
        obtain ⟨⟨q, rfl⟩, rfl⟩ := hcut
        obtain ⟨w10, rfl⟩ : ∃ W, W = wc := ⟨_, rfl⟩
        go_upto_if 61 with fail
        go_cut [10] (fun s wx => s = .pointer (some ⟨qx, 0, none⟩) ∧ ∃ c : GCell, LS W0 w b bP wx (.slice ra vs.length rc) vs (.slice xa p.cells.length xc) (.slice ya p.free.length yc) p B ∧ RowAt wx qx 0 [.int .i64 c.kind, .int .i64 c.n, .string c.s, .int .i64 c.a.kind, .int .i64 c.a.n, .string c.a.s, .int .i64 c.b.kind, .int .i64 c.b.n, .string c.b.s] ∧ Wr wx qx 0 9 ∧ SmallC c)
        case first =>
          cases q with
          | false =>
            go_wp2_with fail
            go_meet
            exact ⟨rfl, c, L.out, X, XW, hcS.out⟩
          | true =>
            have f_0 := XW.frz 0 (by omega); have f_1 := XW.frz 1 (by omega); have f_2 := XW.frz 2 (by omega); have f_3 := XW.frz 3 (by omega); have f_4 := XW.frz 4 (by omega); have f_5 := XW.frz 5 (by omega); have f_6 := XW.frz 6 (by omega); have f_7 := XW.frz 7 (by omega); have f_8 := XW.frz 8 (by omega)
            go_upto_region 14 with fail
            obtain ⟨w11, hW11⟩ : ∃ W, W = ((((((((w10.setCell ⟨qx, 0, none⟩ (.int .i64 2)).setCell ⟨qx, 1, none⟩ (.int .i64 0)).setCell ⟨qx, 2, none⟩ (.string ⟨#[]⟩)).setCell ⟨qx, 3, none⟩ (.int .i64 3)).setCell ⟨qx, 4, none⟩ (.int .i64 0)).setCell ⟨qx, 5, none⟩ (.string ⟨#[]⟩)).setCell ⟨qx, 6, none⟩ (.int .i64 1)).setCell ⟨qx, 7, none⟩ (.int .i64 1)).setCell ⟨qx, 8, none⟩ (.string ⟨#[]⟩) := ⟨_, rfl⟩
            rw [← hW11]
            have X11 : RowAt w11 qx 0 [.int .i64 2, .int .i64 0, .string ⟨#[]⟩, .int .i64 3, .int .i64 0, .string ⟨#[]⟩, .int .i64 1, .int .i64 1, .string ⟨#[]⟩] := by rw [hW11]; exact nine_row X _ _ _ _ _ _ _ _ _
            have XW11 : Wr w11 qx 0 9 := by rw [hW11]; exact XW.nine _ _ _ _ _ _ _ _ _
            have L11 : LS W0 w b bP w11 (.slice ra vs.length rc) vs (.slice xa p.cells.length xc) (.slice ya p.free.length yc) p B := by rw [hW11]; exact L.out.setq A.out (nine_kept _ _ _ _ _ _ _ _ _)
            have hc2 : SmallC ⟨2, 0, ⟨#[]⟩, ⟨3, 0, ⟨#[]⟩⟩, ⟨1, 1, ⟨#[]⟩⟩⟩ := small_mk (by constructor <;> omega) (by constructor <;> omega) (by decide) (seqv_wf _ _ _ (by omega) (by constructor <;> omega) (by decide)) (seqv_wf _ _ _ (by omega) (by constructor <;> omega) (by decide))
            have hL11 := L11.df.size
            replace hc2 := Lib.hid hc2
            clear hW11 d_0 d_1 d_2 d_3 d_4 d_5 d_6 d_7 d_8 f_0 f_1 f_2 f_3 f_4 f_5 f_6 f_7 f_8 X XW L
            by_cases h0 : 0 < vs.length
            · obtain ⟨gr, o, cr, -, hv, hr1, hr2, hr3, hr4, hR⟩ := L11.tail.cells h0
              obtain ⟨rfl, rfl⟩ : ra = some ⟨gr, o * 3, none⟩ ∧ rc = cr := by injection hv with e1 e2 e3; exact ⟨e1, e3⟩
              have hd : decide (0 < vs.length) = true := decide_eq_true h0
              have hrq : gr < qx := A.out.roots gr rfl
              clear hv
              replace L11 := Lib.hid L11
              replace hR := Lib.hid hR
              go_wp2_with (go_at_call 38; (with_reducible refine (l01Below_c W0 _ b (vs.length : Int) (by omega) L11.out.df.cur).mono ?_); rintro e w12 ⟨z, rfl, hz0, hz1, hz2, D12⟩; obtain ⟨kz, rfl⟩ := Int.eq_ofNat_of_zero_le hz0; have hkz : kz < vs.length := (by have := hz1 (by omega); omega); obtain ⟨v, hv⟩ : ∃ v, vs[kz]? = some v := ⟨_, List.getElem?_eq_getElem hkz⟩; have hsv := Lib.hid (L11.out.vals v (List.mem_of_getElem? hv)); have hbq := L11.out.bw; have hR12 := hR.out.kept D12.kept (fun e => by omega); have v0' := hR12 (kz * 3 + 0) _ (flatVal.get hv (show (valRow v)[0]? = some (.int .i64 v.kind) from rfl)); have v1' := hR12 (kz * 3 + 1) _ (flatVal.get hv (show (valRow v)[1]? = some (.int .i64 v.n) from rfl)); have v2' := hR12 (kz * 3 + 2) _ (flatVal.get hv (show (valRow v)[2]? = some (.string v.s) from rfl)); rw [Nat.add_zero] at v0'; rw [← Nat.add_assoc] at v1' v2'; have X12 := X11.kept D12.kept (fun e => by have := A.out.w; omega); have XW12 := XW11.kept D12.kept (fun e => by have := A.out.w; omega); obtain ⟨d_0, d_1, d_2, d_3, d_4, d_5, d_6, d_7, d_8⟩ := X12.box9; have f_3 := XW12.frz 3 (by omega); have f_4 := XW12.frz 4 (by omega); have f_5 := XW12.frz 5 (by omega); clear hR12)
              go_meet
              exact ⟨rfl, ⟨2, 0, ⟨#[]⟩, v, ⟨1, 1, ⟨#[]⟩⟩⟩, (L11.out.next D12).setq A.out sets3, ((X12.putAt (j := 3) (by simp) _).putAt (j := 4) (by simp) _).putAt (j := 5) (by simp) _, ((XW12.set 3 _).set 4 _).set 5 _, small_mk (by constructor <;> omega) (by constructor <;> omega) (by decide) hsv.out (seqv_wf _ _ _ (by omega) (by constructor <;> omega) (by decide))⟩
            · have hd : decide (0 < vs.length) = false := decide_eq_false h0
              replace L11 := Lib.hid L11
              go_wp2_with fail
              go_meet
              exact ⟨rfl, ⟨2, 0, ⟨#[]⟩, ⟨3, 0, ⟨#[]⟩⟩, ⟨1, 1, ⟨#[]⟩⟩⟩, L11.out, X11, XW11, hc2.out⟩
        obtain ⟨rfl, c, L, X, XW, hcS⟩ := hcut
        obtain ⟨w13, rfl⟩ : ∃ W, W = wc := ⟨_, rfl⟩
        clear A hLn
        obtain ⟨p_0, p_1⟩ := L.box.box2
        obtain ⟨d_0, d_1, d_2, d_3, d_4, d_5, d_6, d_7, d_8⟩ := X.box9
        have cM := fun W (hW : Below w13.heap.size w13 W) => spec_PoolMake_c p c _ _ w.heap.size 0 L.small.bulk W (GPool.good.below L.own.R hW) (⟨rfl, hcS.1⟩ : GCell.R 0 W [.int .i64 c.kind, .int .i64 c.n, .string c.s, .int .i64 c.a.kind, .int .i64 c.a.n, .string c.a.s, .int .i64 c.b.kind, .int .i64 c.b.n, .string c.b.s] c)
        have hi64 := pmAt_bound L.own.free.2 c
        replace cM := Lib.hid cM; replace L := Lib.hid L; replace hcS := Lib.hid hcS
        have hLP := L.out.lt
        go_upto_region 17 with (go_at_call 10; (with_reducible refine (cM.out _ (Below.refl _ _)).mono ?_); rintro e w14 ⟨u0, u1, rfl, OP, hb⟩; obtain ⟨ua, uc, rfl⟩ := OP.cells.form; obtain ⟨ta, tc, rfl⟩ := OP.free.form)
        obtain ⟨w15, hW15⟩ : ∃ W, W = w14.alloc (.cells #[.slice ua (pmPool p c).cells.length uc, .slice ta (pmPool p c).free.length tc] 26) := ⟨_, rfl⟩
        rw [← hW15]
        have hb15 : Below w14.heap.size w14 w15 := by rw [hW15]; go_grown
        have N15 : RowAt w15 w14.heap.size 0 [.slice ua (pmPool p c).cells.length uc, .slice ta (pmPool p c).free.length tc] := by rw [hW15]; exact RowAt.box w14 #[_, _] _
        have OP15 := OP.below hb15
        have hb13 : Below w13.heap.size w13 w15 := hb.trans (hb15.mono hb.size)
        have LB := L.out.below hb13
        have LN := L.out.pool OP15 (L.out.small.make hcS.out) hb13
        have hps := Lib.hid (L.out.small.make hcS.out)
        clear hW15 hb15 OP hb p_0 p_1 d_0 d_1 d_2 d_3 d_4 d_5 d_6 d_7 d_8 X XW cM
        have hLP15 := LB.lt
        obtain ⟨n_0, n_1⟩ := N15.box2
        obtain ⟨p_0, p_1⟩ := LB.box.box2
        have pf_0 := LB.wr.frz 0 (by omega); have pf_1 := LB.wr.frz 1 (by omega)
        replace LB := Lib.hid LB; replace LN := Lib.hid LN; replace OP15 := Lib.hid OP15
        generalize pmPool p c = p2 at *
        generalize pmAt p c = at_ at *
        generalize w14.heap.size = bN at *
        by_cases hcode : pmCode p c = 0
        · have hd : (pmCode p c == 0) = true := by simp [hcode]
          replace hcode := Lib.hid hcode
          go_upto_region 19 with fail
          obtain ⟨w16, hW16⟩ : ∃ W, W = (w15.setCell ⟨bP, 0, none⟩ (.slice ua p2.cells.length uc)).setCell ⟨bP, 1, none⟩ (.slice ta p2.free.length tc) := ⟨_, rfl⟩
          rw [← hW16]
          replace LN := LN.out
          rw [← hW16] at LN
          replace LN := Lib.hid LN
          clear hW16 n_0 n_1 p_0 p_1 pf_0 pf_1 N15
          generalize pmCode p c = code at *
          go_cut [88] (fun s wx => (∃ q : Bool, s = .bool q) ∧ LS W0 w b bP wx (.slice ra vs.length rc) vs (.slice ua p2.cells.length uc) (.slice ta p2.free.length tc) p2 B)
          case first =>
            go_wp2_with (go_at_call 38; (with_reducible refine (l01Below_c W0 _ b 3 (by omega) LN.out.df.cur).mono ?_); rintro e w6 ⟨y, rfl, hx0, hx1, hx2, D6⟩)
            go_meet
            exact ⟨⟨_, rfl⟩, LN.out.next D6⟩
          obtain ⟨⟨q, rfl⟩, L17⟩ := hcut
          obtain ⟨w17, rfl⟩ : ∃ W, W = wc := ⟨_, rfl⟩
          clear LN LB OP15 L
          go_upto_if 88 with fail
          go_cut [6] (fun s wx => ∃ (vr : Value) (vs' : List GVal), s = vr ∧ vs'.length ≤ vs.length + 1 ∧ LS W0 w b bP wx vr vs' (.slice ua p2.cells.length uc) (.slice ta p2.free.length tc) p2 B)
          case first =>
            cases q with
            | false =>
              replace L17 := Lib.hid L17
              go_wp2_with fail
              go_meet
              exact ⟨_, vs, rfl, by omega, L17.out⟩
            | true =>
              have hT := Lib.hid L17.tail
              have hz17 := L17.df.size
              have hvS : SmallV ⟨6, at_, ⟨#[]⟩⟩ := seqv_wf _ _ _ (by omega) hi64 (by decide)
              replace hvS := Lib.hid hvS; replace L17 := Lib.hid L17
              go_wp2_with (at_builtin; refine wpList_append_tail _ rfl _ _ _ rfl w.heap.size 28 j0 _ 3 32 Try.underlying52 J.out J0.out J1.out J2.out rfl (by omega) (.slice ra vs.length rc) vs.length (rowsOf valRow vs) rfl (Tail.below hT.out (by go_grown)) ⟨w17.heap.size, 0, none⟩ 1 1 [.int .i64 6, .int .i64 at_, .string ⟨#[]⟩] rfl rfl (World.news_of_block (cs := #[.int .i64 6, .int .i64 at_, .string ⟨#[]⟩]) (t := 28) (fr := (0, 0)) (heap_alloc_new' _ _ _ (by simp))) (by intro u hu; simp at hu; rcases hu with rfl | rfl | rfl <;> rfl) (by omega) (by unfold maxLen; omega) (by omega) (by simp; omega) _ rfl ?_; intro vn w18 hown hgrow hat; obtain ⟨na, nc, rfl⟩ := hown.form)
              go_meet
              refine ⟨_, vs ++ [⟨6, at_, ⟨#[]⟩⟩], rfl, by simp, ?_⟩
              have La := L17.out.below (show Below w17.heap.size w17 (w17.alloc (.cells #[.int .i64 6, .int .i64 at_, .string ⟨#[]⟩] 28)) by go_grown)
              refine La.roots (H := (w17.alloc (.cells #[.int .i64 6, .int .i64 at_, .string ⟨#[]⟩] 28)).heap.size) (La.df.grow hgrow (fun g hg => (L17.out.tail.block g hg).1) L17.out.bw) hgrow ?_ (fun v hv => ?_) (by simpa using hat) (Nat.le_refl _)
              · have : (vs ++ [(⟨6, at_, ⟨#[]⟩⟩ : GVal)]).length = vs.length + 1 := by simp
                rw [this, rowsOf_append, rowsOf_one]
                exact hown
              · rcases List.mem_append.1 hv with h | h
                · exact L17.out.vals v h
                · simp at h; subst h; exact hvS.out
          obtain ⟨vr, vs', rfl, hlen', L18⟩ := hcut
          obtain ⟨w18, rfl⟩ : ∃ W, W = wc := ⟨_, rfl⟩
          obtain ⟨ra', rc', rfl⟩ := L18.tail.form
          clear L17
          have hv0 := L18.df.cur
          go_upto_region 21 with fail
          go_cut [101] (fun s wx => ∃ q : Bool, s = .bool q ∧ (q = true → 2 < vs'.length) ∧ LS W0 w b bP wx (.slice ra' vs'.length rc') vs' (.slice ua p2.cells.length uc) (.slice ta p2.free.length tc) p2 B)
          case first =>
            by_cases h2 : 2 < vs'.length
            · have hd2 : decide (2 < vs'.length) = true := decide_eq_true h2
              replace L18 := Lib.hid L18
              go_wp2_with (go_at_call 38; (with_reducible refine (l01Below_c W0 _ b 3 (by omega) hv0).mono ?_); rintro e w6 ⟨y, rfl, hx0, hx1, hx2, D6⟩)
              go_meet
              exact ⟨_, rfl, fun _ => h2, L18.out.next D6⟩
            · have hd2 : decide (2 < vs'.length) = false := decide_eq_false h2
              replace L18 := Lib.hid L18
              go_wp2_with fail
              go_meet
              exact ⟨false, rfl, (fun h => by cases h), L18.out⟩
          obtain ⟨q, rfl, hq2, L19⟩ := hcut
          obtain ⟨w19, rfl⟩ : ∃ W, W = wc := ⟨_, rfl⟩
          clear L18 hv0
          cases q with
          | false =>
            replace L19 := Lib.hid L19
            go_wp2_with fail
            go_roundw
            case rel => exact ⟨j - 1, _, _, _, vs', _, B, by omega, by go_num, rfl, by omega, by omega, L19.out⟩
            case measure => simp [intOf]; omega
          | true =>
            have h2 := hq2 rfl
            obtain ⟨v, vs2, rfl⟩ : ∃ v vs2, vs' = v :: vs2 := by
              cases vs' with
              | nil => simp at h2
              | cons v vs2 => exact ⟨v, vs2, rfl⟩
            simp only [List.length_cons] at h2 hlen' L19 ⊢
            have hT := L19.tail
            obtain ⟨gr, o, cr, ho, hv, hr1, hr2, hr3, hr4, hR⟩ := hT.cells (by simp)
            obtain ⟨rfl, rfl⟩ : ra' = some ⟨gr, o * 3, none⟩ ∧ rc' = cr := by injection hv with e1 e2 e3; exact ⟨e1, e3⟩
            simp only [List.length_cons] at hr3
            obtain ⟨cr, rfl⟩ : ∃ m, rc' = m + 1 := ⟨rc' - 1, by omega⟩
            have hrow : rowsOf valRow (v :: vs2) = valRow v ++ rowsOf valRow vs2 := by simp [rowsOf]
            rw [hrow] at hT
            have hT2 := Tail.tail hT (by omega) rfl
            rw [Nat.succ_mul] at hT2
            have hcr : ¬ cr = 0 := by omega
            replace hT2 := Lib.hid hT2
            replace hT := Lib.hid hT; replace hv := Lib.hid hv; replace hR := Lib.hid hR; replace hrow := Lib.hid hrow; replace L19 := Lib.hid L19
            go_wp2_with fail
            go_roundw
            case rel => exact ⟨j - 1, _, _, _, vs2, _, B + 1, by omega, by go_num, rfl, by omega, by omega, L19.out.fewer hT2.out (fun u hu => L19.out.vals u (List.mem_cons_of_mem _ hu)) rfl⟩
            case measure => simp [intOf]; omega
        · have hd : (pmCode p c == 0) = false := by simp [hcode]
          replace hcode := Lib.hid hcode
          go_wp2_with fail
          go_roundw
          case rel => exact ⟨j - 1, _, _, _, vs, _, B, by omega, by go_num, rfl, by omega, by omega, LB.out⟩
          case measure => simp [intOf]; omega
    · obtain rfl : j = 0 := by omega
      obtain ⟨p_0, p_1⟩ := L.box.box2
      obtain ⟨⟨e_0, e_1⟩, ef_0, ef_1⟩ : (wr.cell? ⟨w.heap.size, 0, none⟩ = some (.slice none 0 0) ∧ wr.cell? ⟨w.heap.size, 1, none⟩ = some (.slice none 0 0)) ∧ wr.frozen? ⟨w.heap.size, 0, none⟩ = false ∧ wr.frozen? ⟨w.heap.size, 1, none⟩ = false := ⟨L.e.1.box2, L.e.2.frz 0 (by omega), L.e.2.frz 1 (by omega)⟩
      replace L := Lib.hid L
      go_wp2_with fail
      have q := stored2 (x := .slice xa p.cells.length xc) (y := .slice ya p.free.length yc) e_0 e_1
      refine bodyPost_ret (v := .tuple #[.agg #[.slice xa p.cells.length xc, .slice ya p.free.length yc], .slice ra vs.length rc]) (by simp [results, Try.results69, go_sem, q.1, q.2]) rfl ?_
      have K : Kept (· = w.heap.size) wr ((wr.setCell ⟨w.heap.size, 0, none⟩ (.slice xa p.cells.length xc)).setCell ⟨w.heap.size, 1, none⟩ (.slice ya p.free.length yc)) := Kept.set (S := (· = w.heap.size)) (p := ⟨w.heap.size, 1, none⟩) (Kept.set (S := (· = w.heap.size)) (p := ⟨w.heap.size, 0, none⟩) (Kept.refl _ _) rfl _) rfl _
      have L := L.out
      exact ⟨_, _, _, p, vs, B, rfl, L.own.kept K (fun g hg e => (L.sepP g (.inl hg)).2.1 e) (fun g hg e => (L.sepP g (.inr hg)).2.1 e), L.small, L.tail.kept K (fun g hg e => (L.sepR g hg).2 e), by omega, L.vals, fun g hg => (L.sepP g hg).2.2, L.df.sets K (Nat.le_refl _) hbl (fun C hC => below_set2 (Below.refl _ _) hC _ _)⟩

end Go.Proofs.Ytajbgkpjmgmdhaa
