/- Parts of the proof, merged: NeedsLaw, Open, Opens. -/
import Derived.Deep.RegionHeld3
import Derived.Deep.Slices
import Derived.OpenShut
import Derived.Test.YtaimekaagmcmnaaGreatRows
import Derived.Test.YtaimekaagmcmnaaGreatNe52
namespace Go.Proofs.YtaimekaagmcmnaaGreat
open Go.RowKit
set_option linter.unusedVariables false
set_option linter.unusedSimpArgs false
attribute [local go_sem] Ext.cell

theorem needs_y (p : GProgram) (hs : ProgSm p) : ∃ y : List ByteArray, y.length ≤ 13 ∧ (∀ (r : List Value) (lo : Nat) (w : World), GProgram.R lo w r p → Calls Tryz.prog 7 #[.agg r.toArray] w (StrPost y w)) ∧ (∀ (r : List Value) (lo : Nat) (w : World), GProgram.R lo w r p → Calls Tryz.prog 5 #[.agg r.toArray] w (StrPost y w)) := by
  cases hk : progOk p with
  | false => exact ⟨[], by simp, fun r lo w hr => Needs_no p hs hk r lo w hr, fun r lo w hr => specNeeds_no p hs hk r lo w hr⟩
  | true =>
    obtain ⟨x, hx⟩ := prog_tree hk hs
    exact ⟨_, needL_len _, fun r lo w hr => Needs_yes p x hx r lo w hr, fun r lo w hr => specNeeds_yes p x hx r lo w hr⟩
theorem eqProgram_eq (y : GProgram) (r s : List Value) (lo lo' : Nat) (W : World) (h1 : GProgram.R lo W r y) (h2 : GProgram.R lo' W s y) :
    Calls Tryz.prog 9 #[.agg r.toArray, .agg s.toArray] W fun e W' => e = .returned (.bool true) ∧ Below W.heap.size W W' :=
  (eqProgram_c y y r s lo lo' W h1 h2).mono fun e W' ⟨he, hb⟩ => ⟨by rw [he]; simp, hb⟩

namespace fnExactNeeds
set_option maxRecDepth 100000 in
set_option maxHeartbeats 16000000 in
theorem law (x0 : GProgram) (r0 : List Value) (w : World) (hx0 : GProgram.R 0 w r0 x0) :
    Calls Tryz.prog 3 #[.agg r0.toArray] w fun en w' => en = .returned (.bool true) ∧ Below w.heap.size w w' := by
  have Hx0 := hx0
  obtain ⟨u0, u1, rfl, -, a0, a1⟩ := hx0
  obtain ⟨ua, uc, rfl⟩ := a0.form
  obtain ⟨va, vc, rfl⟩ := a1.form
  clear a0 a1
  have z0 := GProgram.bulk_nonneg x0
  go_enter Tryz.func3, Tryz.ntmps3
  go_upto_region 1 with fail
  have B : RowAt (w.alloc (.cells #[.slice ua x0.types.length uc, .slice va x0.nodes.length vc] 25)) (w.heap.size) 0 [.slice ua x0.types.length uc, .slice va x0.nodes.length vc] := RowAt.box w #[.slice ua x0.types.length uc, .slice va x0.nodes.length vc] 25
  have hw : Below w.heap.size w (w.alloc (.cells #[.slice ua x0.types.length uc, .slice va x0.nodes.length vc] 25)) := by go_grown
  generalize (w.alloc (.cells #[.slice ua x0.types.length uc, .slice va x0.nodes.length vc] 25)) = w0 at *
  obtain ⟨b_0, b_1⟩ := B.box2; have hsB := World.block_lt_of_cell? _ _ b_0; dsimp only at hsB
  go_wp2_with fail
  refine (szProgram_c x0 _ 0 _ (by omega) (by omega) _ (GProgram.good.below Hx0 hw)).mono ?_
  rintro en w1 ⟨n1, rfl, (⟨g0, rfl⟩ | ⟨g0, rfl⟩), hb⟩
  rotate_left
  · replace hw : Below w.heap.size w w1 := hw.trans (hb.mono hw.size)
    go_wp2
    go_returns
    exact ⟨rfl, hw⟩
  have hw := hw.trans (hb.mono hw.size); have B := B.below hb; obtain ⟨b_0, b_1⟩ := B.box2; have hsB := World.block_lt_of_cell? _ _ b_0; dsimp only at hsB; clear hb
  have hB0 := hsB
  obtain ⟨hcnt, hlT, hlN, hsm⟩ := progCnt_ok g0
  obtain ⟨y, hny, cI, cS⟩ := needs_y x0 hsm
  have cT := fun W (hW : Below w.heap.size w W) => toProgram_o x0 _ 0 g0 W (GProgram.good.below Hx0 hW)
  have hd : (decide ((1048576 : Int) - x0.bulk < 0)) = false := decide_eq_false (by omega)
  generalize hz1 : (1048576 : Int) - x0.bulk = n1 at *
  clear hz1 z0 g0 hsm
  obtain ⟨kx, hkx⟩ : ∃ k : Nat, k = 1 + cntL cntType x0.types + cntL cntNode x0.nodes := ⟨_, rfl⟩
  have cM := fun (bs : List Nat) (r : List Value) (lo : Nat) W hS hnd hlo hlw => markProgram_c x0 r bs 1 lo W hS hnd hlo hlw hcnt hlT hlN
  rw [← hkx] at cM
  have dk : decide ((kx : Int) < 0) = false := decide_eq_false (by omega)
  obtain ⟨ny, hny'⟩ : ∃ n, n = y.length := ⟨_, rfl⟩
  rw [← hny'] at hny
  obtain ⟨r2, hr2⟩ : ∃ r : Int, r = 1 + (ny : Int) := ⟨_, rfl⟩
  have hd2 : decide (r2 < 0) = false := decide_eq_false (by omega)
  have sy : ∀ (lo : Nat) (W : World) (v : Value), OwnF 9 1 strRow StrOk lo W v y → ∃ a c, v = .slice a ny c := fun _ _ _ h => by obtain ⟨a, c, rfl⟩ := h.form; rw [hny']; exact ⟨a, c, rfl⟩
  have cMy : ∀ (lo : Nat) (W : World) (v : Value), OwnF 9 1 strRow StrOk lo W v y → lo ≤ W.heap.size → Calls Tryz.prog 11 #[v, .int .i64 1] W fun e w' => e = .returned (.int .i64 r2) ∧ MkStrings w' v ny 1 ∧ Below lo W w' ∧ Kept (fun q => v.ownBlock = some q) W w' := fun lo W v h hl =>
    markStrings_c v ny 1 lo 1 r2 rfl hr2 (by omega) _ W (by have := h.1; rw [← hny'] at this; exact this) hl
  have cHy : ∀ (W : World) (v : Value), MkStrings W v ny 1 → Calls Tryz.prog 12 #[v, .int .i64 1] W fun e w' => e = .returned (.int .i64 r2) ∧ Below W.heap.size W w' := fun W v h =>
    heldStrings_c v ny 1 1 r2 rfl hr2 (by omega) W h
  generalize hnt : x0.types.length = nt at *
  generalize hnn : x0.nodes.length = nn at *
  have Pform : ∀ {bs : List Nat} {W : World} {r : List Value}, GProgram.O bs W r x0 → ∃ a c a' c', r = [.slice a nt c, .slice a' nn c'] := fun h => by
    obtain ⟨v0, p0, v1, p1, rfl, -, -, s0, s1⟩ := h
    obtain ⟨a, c, rfl⟩ := s0.form
    obtain ⟨a', c', rfl⟩ := s1.form
    rw [hnt, hnn]; exact ⟨a, c, a', c', rfl⟩
  replace cT := Lib.hid cT; replace cS := Lib.hid cS; replace cI := Lib.hid cI; replace cM := Lib.hid cM; replace cMy := Lib.hid cMy; replace cHy := Lib.hid cHy; replace sy := Lib.hid sy
  replace hkx := Lib.hid hkx; replace hny' := Lib.hid hny'; replace hr2 := Lib.hid hr2; replace hny := Lib.hid hny; replace hlT := Lib.hid hlT; replace hlN := Lib.hid hlN; replace hcnt := Lib.hid hcnt; replace Hx0 := Lib.hid Hx0
  -- the reference's result
  go_upto_region 6 with (first
    | (go_at_call 6; (with_reducible refine (cT.out _ hw).mono ?_); rintro en w2 ⟨rt, bt, rfl, OT, -, fT, hb⟩; have RT := GProgram.ok.read OT fT; have hw2 := hw.trans (hb.mono hw.size); have hz2 := hb.size; have B2 := B.below hb)
    | (go_at_call 5; (with_reducible refine (cS.out _ _ _ RT).mono ?_); rintro en w3 ⟨vs, rfl, S, hb⟩; obtain ⟨sa, sc, rfl⟩ := sy.out _ _ _ S; have hw3 := hw2.trans (hb.mono hw2.size); have hz3 := hb.size; have B3 := B2.below hb))
  have hSb := S.base
  clear OT fT RT B2 hw2 hb b_0 b_1 hsB B hw
  replace S := Lib.hid S; replace hSb := Lib.hid hSb
  obtain ⟨b3_0, b3_1⟩ := B3.box2; have hsB3 := World.block_lt_of_cell? _ _ b3_0; dsimp only at hsB3
  -- the argument's copy
  go_upto_region 7 with (go_at_call 6; (with_reducible refine (cT.out _ hw3).mono ?_); rintro en w5 ⟨rx, bx, rfl, OX, ndX, fX, hb5⟩; obtain ⟨xa, xc, xa', xc', rfl⟩ := Pform OX)
  have ltX := GProgram.ok.lt OX
  obtain ⟨w6, hW6⟩ : ∃ W, W = w5.alloc (.cells #[.slice xa nt xc, .slice xa' nn xc'] 32) := ⟨_, rfl⟩
  rw [← hW6]
  have hb6 : Below w5.heap.size w5 w6 := by rw [hW6]; go_grown
  have X : RowAt w6 w5.heap.size 0 [.slice xa nt xc, .slice xa' nn xc'] := by rw [hW6]; exact RowAt.box w5 #[_, _] _
  have hs6 : w5.heap.size < w6.heap.size := by rw [hW6]; simp
  have F6 : Below w3.heap.size w3 w6 := hb5.trans (hb6.mono hb5.size)
  have OX := GProgram.ok.below OX hb6
  have hz5 := hb5.size
  have hw6 := hw3.trans (F6.mono hw3.size)
  have S6 := Lib.hid (S.out.below F6)
  have B6 := B3.below F6
  obtain ⟨b5, hb5'⟩ : ∃ x, x = w5.heap.size := ⟨_, rfl⟩
  rw [← hb5'] at X hs6 ltX hz5 ⊢
  clear hW6 hb6 hb5 b3_0 b3_1 hsB3 S B3
  replace OX := Lib.hid OX; replace ndX := Lib.hid ndX; replace fX := Lib.hid fX; replace ltX := Lib.hid ltX; replace hb5' := Lib.hid hb5'
  have RX := Lib.hid (GProgram.ok.read OX.out fX.out)
  obtain ⟨x_0, x_1⟩ := X.box2; have hsX := World.block_lt_of_cell? _ _ x_0; dsimp only at hsX
  -- the program's result
  go_upto_region 8 with (go_at_call 7; (with_reducible refine (cI.out _ _ _ RX.out).mono ?_); rintro en w7 ⟨vg, rfl, G, hb7⟩; obtain ⟨ga, gc, rfl⟩ := sy.out _ _ _ G)
  have hGb := G.base
  have S7 := Lib.hid (S6.out.below hb7)
  have OX7 := Lib.hid (GProgram.ok.below OX.out hb7)
  have X7 := X.below hb7
  have B7 := B6.below hb7
  have hw7 := hw6.trans (hb7.mono hw6.size)
  have hz7 := hb7.size
  clear hb7 x_0 x_1 hsX X B6 OX RX S6
  replace G := Lib.hid G; replace hGb := Lib.hid hGb
  go_upto_region 10 with (go_at_call 8; (with_reducible refine (eqS_own G.out S7.out).mono ?_); rintro en w9 ⟨rfl, hb9⟩)
  have hw9 := hw7.trans (hb9.mono hw7.size)
  have S9 := Lib.hid (S7.out.below hb9)
  have G9 := Lib.hid (G.out.below hb9)
  have OX9 := Lib.hid (GProgram.ok.below OX7.out hb9)
  have X9 := X7.below hb9
  have B9 := B7.below hb9
  have hz9 := hb9.size
  have cE0 := fun (r r2 : List Value) (lo lo2 : Nat) W (hr : GProgram.R lo W r x0) (hr2 : GProgram.R lo2 W r2 x0) => eqProgram_eq x0 r r2 lo lo2 W hr hr2
  replace cE0 := Lib.hid cE0
  clear hb9 S7 G OX7 X7 B7
  obtain ⟨b9_0, b9_1⟩ := B9.box2; have hsB9 := World.block_lt_of_cell? _ _ b9_0; dsimp only at hsB9; obtain ⟨x9_0, x9_1⟩ := X9.box2; have hsX9 := World.block_lt_of_cell? _ _ x9_0; dsimp only at hsX9
  -- the argument is as it was
  go_region_held3 (fun w' => w'.cell? ⟨b5, 0, none⟩ = some (.slice xa nt xc) ∧ w'.cell? ⟨b5, 1, none⟩ = some (.slice xa' nn xc') ∧ w'.cell? ⟨w.heap.size, 0, none⟩ = some (.slice ua nt uc) ∧ w'.cell? ⟨w.heap.size, 1, none⟩ = some (.slice va nn vc)) (first | exact ⟨x9_0, x9_1, b9_0, b9_1⟩ | go_keep)
    (first
      | (go_at_call 6; (with_reducible refine (cT.out _ (hw9.trans (by go_grown))).mono ?_); rintro en w10 ⟨rt, bt, rfl, OT, -, fT, hb10⟩; have hb10' : Below w9.heap.size w9 w10 := (show Below w9.heap.size w9 w9.drew by go_grown).trans (hb10.mono (by go_grown)); have RT := Lib.hid (GProgram.ok.read OT fT); have X10 := X9.below hb10'; have B10 := B9.below hb10'; obtain ⟨x10_0, x10_1⟩ := X10.box2; have hsX10 := World.block_lt_of_cell? _ _ x10_0; dsimp only at hsX10; obtain ⟨b10_0, b10_1⟩ := B10.box2; have hsB10 := World.block_lt_of_cell? _ _ b10_0; dsimp only at hsB10; clear OT fT hb10)
      | (go_at_call 9; (with_reducible refine (cE0.out _ _ _ _ _ (GProgram.ok.read (GProgram.ok.below OX9.out hb10') fX.out) RT.out).mono ?_); rintro en w11 ⟨rfl, hb11⟩; have hb911 : Below w9.heap.size w9 w11 := hb10'.trans (hb11.mono hb10'.size); have X11 := X9.below hb911; have B11 := B9.below hb911; obtain ⟨x11_0, x11_1⟩ := X11.box2; have hsX11 := World.block_lt_of_cell? _ _ x11_0; dsimp only at hsX11; obtain ⟨b11_0, b11_1⟩ := B11.box2; have hsB11 := World.block_lt_of_cell? _ _ b11_0; dsimp only at hsB11))
  all_goals
    have hw11 := hw9.trans (hb911.mono hw9.size)
    have S11 := Lib.hid (S9.out.below hb911)
    have G11 := Lib.hid (G9.out.below hb911)
    have OX11 := Lib.hid (GProgram.ok.below OX9.out hb911)
    have hz11 := hb911.size
    have h36 := F6.size
    have cM2 : Calls Tryz.prog 10 #[.agg #[.slice xa nt xc, .slice xa' nn xc'], .int .i64 1] w11 fun e w' => e = .returned (.int .i64 (kx : Int)) ∧ Kept (· ∈ bx) w11 w' ∧ Below w3.heap.size w11 w' := cM.out bx _ w3.heap.size w11 OX11.out ndX.out fX.out (by omega)
    replace cM2 := Lib.hid cM2
    clear hb911 hb10' hb11 OX9 RT X10 B10 x9_0 x9_1 b9_0 b9_1
    have hw3z := hw3.size
    have hnx2 : ∀ b, b ∈ bx → w3.heap.size ≤ b ∧ b < b5 := fun b h => ⟨fX.out b h, ltX.out b h⟩
    replace hnx2 := Lib.hid hnx2
    go_upto_region 14 with (go_at_call 10; (with_reducible refine (cM2.out).mono ?_); rintro en w12 ⟨rfl, hK12, hb12⟩)
    have hw12 := hw11.trans (hb12.mono hw3z)
    have S12 := Lib.hid (S11.out.kept hK12 (fun g hg h => by have h1 := hSb.out g hg; have h2 := hnx2.out g h; omega))
    have G12 := Lib.hid (G11.out.kept hK12 (fun g hg h => by have h1 := hGb.out g hg; have h2 := hnx2.out g h; omega))
    have B12 := B11.kept hK12 (fun h => by have := hnx2.out _ h; omega)
    have hz12 := hb12.size
    clear hK12 hb12 cM2 OX11 X11 x11_0 x11_1 hsX11 b11_0 b11_1 hsB11 B11 S11 G11
    obtain ⟨b12_0, b12_1⟩ := B12.box2; have hsB12 := World.block_lt_of_cell? _ _ b12_0; dsimp only at hsB12
    go_upto_region 16 with (go_at_call 8; (with_reducible refine (eqS_own G12.out S12.out).mono ?_); rintro en w13 ⟨rfl, hb13⟩)
    have hw13 := hw12.trans (hb13.mono hw12.size)
    have S13 := Lib.hid (S12.out.below hb13)
    have G13 := Lib.hid (G12.out.below hb13)
    have B13 := B12.below hb13
    have hz13 := hb13.size
    have hw6z := hw6.size
    clear hb13 S12 G12 b12_0 b12_1 hsB12 B12
    go_upto_region 18 with (go_at_call 11; (with_reducible refine (cMy.out _ _ _ G13.out (by omega)).mono ?_); rintro en w14 ⟨rfl, M, hb14, hK14⟩)
    have hw14 := hw13.trans (hb14.mono hw6z)
    have S14 := Lib.hid (S13.out.kept hK14 (fun g hg h => by have h1 := hSb.out g hg; have h2 := hGb.out g h; omega))
    have B14 := B13.kept hK14 (fun h => by have h2 := hGb.out _ h; omega)
    clear hb14 hK14 S13 G13 B13
    replace M := Lib.hid M
    go_upto_region 20 with (go_at_call 12; (with_reducible refine (cHy.out _ _ M.out).mono ?_); rintro en w15 ⟨rfl, hb15⟩)
    have hw15 := hw14.trans (hb15.mono hw14.size)
    have S15 := Lib.hid (S14.out.below hb15)
    have M15 := Lib.hid (M.out.below hb15)
    have B15 := B14.below hb15
    clear hb15 S14 M B14
    obtain ⟨b15_0, b15_1⟩ := B15.box2; have hsB15 := World.block_lt_of_cell? _ _ b15_0; dsimp only at hsB15
    go_upto_region 25 with (first
      | (go_at_call 6; (with_reducible refine (cT.out _ hw15).mono ?_); rintro en w16 ⟨rt, bt, rfl, OT, -, fT, hb16⟩; have RT := GProgram.ok.read OT fT; have hw16 := hw15.trans (hb16.mono hw15.size); have S16 := Lib.hid (S15.out.below hb16); have M16 := Lib.hid (M15.out.below hb16))
      | (go_at_call 7; (with_reducible refine (cI.out _ _ _ RT).mono ?_); rintro en w17 ⟨hv, rfl, H, hb17⟩; obtain ⟨ha, hc, rfl⟩ := sy.out _ _ _ H))
    have hw17 := hw16.trans (hb17.mono hw16.size)
    have S17 := Lib.hid (S16.out.below hb17)
    have M17 := Lib.hid (M16.out.below hb17)
    clear OT fT RT hb16 hb17 b15_0 b15_1 hsB15 B15 S15 S16 M15 M16
    replace H := Lib.hid H
    go_upto_region 27 with (go_at_call 8; (with_reducible refine (eqS_own H.out S17.out).mono ?_); rintro en w19 ⟨rfl, hb19⟩)
    have hw19 := hw17.trans (hb19.mono hw17.size)
    have M19 := Lib.hid (M17.out.below hb19)
    clear hb19 M17 H S17
    go_wp2_with (go_at_call 12; (with_reducible refine (cHy.out _ _ M19.out).mono ?_); rintro en w20 ⟨rfl, hb20⟩)
    go_returns
    exact ⟨rfl, hw19.trans (hb20.mono hw19.size)⟩
end fnExactNeeds
end Go.Proofs.YtaimekaagmcmnaaGreat
namespace Go.Proofs.YtaimekaagmcmnaaGreat
open Go.RowKit
set_option linter.unusedVariables false
set_option linter.unusedSimpArgs false

def Opens {α : Type} (P : Program) (t : TypeId) (R : Reading α) : Prop := ∀ (H : Type) (enc : TypeId × Value → H) (w : World) (spare : Nat → Bool) (held : Bool) (fuel : Nat) (cs : List Value) (x : DataW H × List MemPlace),
  DataW.trod enc P w 0 spare held fuel t cs = some x → ∃ y, R 0 w cs y

def SlR {α : Type} (R : Reading α) (sz : Nat) : Reading (List α) := fun lo w r xs => ∃ v, r = [v] ∧ Sl R sz lo w v xs

theorem opens_int {P : Program} {t : TypeId} (ht : P.underlying t = some (.int .i64)) : Opens P t IntR := by
  intro H enc w spare held fuel cs x h
  obtain ⟨n, rfl, _, hw⟩ := DataW.trod_int ht h
  exact ⟨n, rfl, bounds_i64 hw⟩

theorem opens_string {P : Program} {t : TypeId} (ht : P.underlying t = some .string) : Opens P t StrR := by
  intro H enc w spare held fuel cs x h
  obtain ⟨n, rfl, _, hw⟩ := DataW.trod_string ht h
  exact ⟨n, rfl, by unfold StrOk; unfold maxLen at hw; omega⟩

theorem opens_bool {P : Program} {t : TypeId} (ht : P.underlying t = some .bool) : Opens P t BoolR := by
  intro H enc w spare held fuel cs x h
  obtain ⟨n, rfl, _⟩ := DataW.trod_bool ht h
  exact ⟨n, rfl⟩

theorem list_of {α : Type} {p : Nat → α → Prop} : ∀ (n : Nat), (∀ i, i < n → ∃ y, p i y) → ∃ l : List α, l.length = n ∧ ∀ i y, l[i]? = some y → p i y
  | 0, _ => ⟨[], rfl, fun i y h => by simp at h⟩
  | n + 1, h => by
    obtain ⟨l, hl, hp⟩ := list_of n (fun i hi => h i (by omega))
    obtain ⟨y, hy⟩ := h n (by omega)
    refine ⟨l ++ [y], by simp [hl], fun i z hz => ?_⟩
    rcases Nat.lt_trichotomy i n with hi | hi | hi
    · rw [List.getElem?_append_left (by omega)] at hz
      exact hp i z hz
    · subst hi
      rw [List.getElem?_append_right (by omega), hl] at hz
      simp at hz
      exact hz ▸ hy
    · rw [List.getElem?_eq_none (by simp; omega)] at hz
      cases hz

theorem add_none (b off n : Nat) : (⟨b, off, none⟩ : Addr).add n = ⟨b, off + n, none⟩ := by
  unfold Addr.add
  split
  · subst_vars; rfl
  · rfl

theorem opens_slice {α : Type} {P : Program} {t e : TypeId} {R : Reading α} {sz : Nat} (ht : P.underlying t = some (.slice e)) (hc : P.cellsOf e = sz) (hsz : 0 < sz) (hO : Opens P e R) : Opens P t (SlR R sz) := by
  intro H enc w spare held fuel cs x h
  rcases Deep.open_slice ht h with ⟨rfl, _⟩ | ⟨a, len, cap, m, n, D, Pl, rfl, _, hl, hm, hmm, _, hel⟩
  · exact ⟨[], _, rfl, Sl.nil⟩
  have hlm : len ≤ m := by rw [hmm]; split <;> omega
  rw [hc] at hel
  obtain ⟨xs, hxl, hxs⟩ := list_of (p := fun i y => ∃ cs', w.cells? 0 (a.add (i * sz)) sz = some cs' ∧ R 0 w cs' y) len (fun i hi => by
    obtain ⟨cs', h1, h2⟩ := hel i (by omega)
    obtain ⟨y, hy⟩ := hO H enc w spare held n cs' _ h2
    exact ⟨y, cs', h1, hy⟩)
  subst hxl
  refine ⟨xs, _, rfl, some a, cap, rfl, hl, by unfold maxLen at hm; omega, fun hne => ?_⟩
  have hspot : a.spot = none := by
    obtain ⟨cs', h1, _⟩ := hxs 0 xs[0] (by simp)
    obtain ⟨_, h3, h4⟩ := World.cells?_some h1
    have h5 := h4 0 (by omega)
    have h6 : ∃ v, w.cell? (a.add (0 * sz) |>.add 0) = some v := by
      obtain ⟨v, hv⟩ : ∃ v, cs'[0]? = some v := ⟨cs'[0]'(by omega), by simp⟩
      exact ⟨v, by rw [h5, hv]⟩
    obtain ⟨v, hv⟩ := h6
    have h7 := World.cell?_spot hv
    simpa [Addr.add] using h7
  obtain ⟨b, off, sp⟩ := a
  simp only at hspot
  subst hspot
  refine ⟨b, off, Nat.zero_le _, rfl, fun i y hy => ?_⟩
  obtain ⟨cs', h1, h2⟩ := hxs i y hy
  obtain ⟨_, h3, h4⟩ := World.cells?_some h1
  refine ⟨cs', h2, fun j c hjc => ?_⟩
  have hj : j < sz := by
    have := (List.getElem?_eq_some_iff.1 hjc).1
    omega
  have h5 := h4 j hj
  rw [add_none, add_none] at h5
  rw [h5, hjc]

theorem list_len1 {α : Type} {l : List α} (h : l.length = 1) : ∃ a, l = [a] := by
  match l, h with | [a], _ => exact ⟨a, rfl⟩
theorem list_len2 {α : Type} {l : List α} (h : l.length = 2) : ∃ a b, l = [a, b] := by
  match l, h with | [a, b], _ => exact ⟨a, b, rfl⟩
theorem list_len3 {α : Type} {l : List α} (h : l.length = 3) : ∃ a b c, l = [a, b, c] := by
  match l, h with | [a, b, c], _ => exact ⟨a, b, c, rfl⟩
theorem list_len4 {α : Type} {l : List α} (h : l.length = 4) : ∃ a b c d, l = [a, b, c, d] := by
  match l, h with | [a, b, c, d], _ => exact ⟨a, b, c, d, rfl⟩
theorem list_len6 {α : Type} {l : List α} (h : l.length = 6) : ∃ a b c d e f, l = [a, b, c, d, e, f] := by
  match l, h with | [a, b, c, d, e, f], _ => exact ⟨a, b, c, d, e, f, rfl⟩
theorem open_struct {α : Type} {H : Type} {enc : TypeId × Value → H} {P : Program} {t : TypeId} {fs : Array Field} {R : Reading α} {w : World} {base : Nat} {v : Value} {d : DataW H} {spare : Nat → Bool} {held : Bool} {ps : List MemPlace}
    (hs : P.underlying t = some (.struct fs)) (hO : Opens P t R) (hv : Value.okWide P w .any base t v) (h : DataW.Trod enc P w 0 spare held t v d ps) : ∃ r x, v = .agg r.toArray ∧ R 0 w r x := by
  unfold Value.okWide at hv
  rw [hs] at hv
  obtain ⟨cs, rfl, _, _⟩ := hv
  obtain ⟨fuel, hf⟩ := h
  obtain ⟨x, hx⟩ := hO H enc w spare held fuel _ _ hf
  exact ⟨cs.toList, x, by simp, hx⟩

theorem opens_int_ : Opens Tryz.prog 3 IntR := opens_int Tryz.underlying3
theorem cells_int : Tryz.prog.cellsOf 3 = 1 := by kernel_rfl

theorem opens_str_ : Opens Tryz.prog 9 StrR := opens_string Tryz.underlying9
theorem cells_str : Tryz.prog.cellsOf 9 = 1 := by kernel_rfl

theorem cells_S_int : Tryz.prog.cellsOf 59 = 1 := by kernel_rfl
theorem opens_S_int : Opens Tryz.prog 59 (SlR IntR 1) := opens_slice Tryz.underlying59 cells_int (by decide) opens_int_

theorem cells_PNode : Tryz.prog.cellsOf 197 = 4 := by kernel_rfl
theorem opens_PNode : Opens Tryz.prog 197 GPNode.R := by
  intro H enc w spare held fuel cs x h
  obtain ⟨xs, n, rfl, _, hl, hxl, hf⟩ := DataW.trod_struct Tryz.underlying197 h
  rw [cells_PNode] at hl
  obtain ⟨c0, c1, c2, c3, rfl⟩ := list_len4 hl
  have h0 : DataW.trod enc Tryz.prog w 0 spare held n 3 (List.take (Tryz.prog.cellsOf 3) (List.drop 0 [c0, c1, c2, c3])) = xs[0]? := hf 0 _ rfl
  rw [cells_int, List.getElem?_eq_getElem (by rw [hxl]; decide)] at h0
  have h1 : DataW.trod enc Tryz.prog w 0 spare held n 3 (List.take (Tryz.prog.cellsOf 3) (List.drop 1 [c0, c1, c2, c3])) = xs[1]? := hf 1 _ rfl
  rw [cells_int, List.getElem?_eq_getElem (by rw [hxl]; decide)] at h1
  have h2 : DataW.trod enc Tryz.prog w 0 spare held n 9 (List.take (Tryz.prog.cellsOf 9) (List.drop 2 [c0, c1, c2, c3])) = xs[2]? := hf 2 _ rfl
  rw [cells_str, List.getElem?_eq_getElem (by rw [hxl]; decide)] at h2
  have h3 : DataW.trod enc Tryz.prog w 0 spare held n 59 (List.take (Tryz.prog.cellsOf 59) (List.drop 3 [c0, c1, c2, c3])) = xs[3]? := hf 3 _ rfl
  rw [cells_S_int, List.getElem?_eq_getElem (by rw [hxl]; decide)] at h3
  obtain ⟨z0, e0, w0⟩ := opens_int_ _ _ _ _ _ _ _ _ h0
  simp only [List.drop_zero, List.drop_succ_cons, List.take_succ_cons, List.take_zero, List.cons.injEq, and_true] at e0
  obtain rfl := e0
  obtain ⟨z1, e1, w1⟩ := opens_int_ _ _ _ _ _ _ _ _ h1
  simp only [List.drop_zero, List.drop_succ_cons, List.take_succ_cons, List.take_zero, List.cons.injEq, and_true] at e1
  obtain rfl := e1
  obtain ⟨z2, e2, w2⟩ := opens_str_ _ _ _ _ _ _ _ _ h2
  simp only [List.drop_zero, List.drop_succ_cons, List.take_succ_cons, List.take_zero, List.cons.injEq, and_true] at e2
  obtain rfl := e2
  obtain ⟨z3, v3, e3, s3⟩ := opens_S_int _ _ _ _ _ _ _ _ h3
  simp only [List.drop_zero, List.drop_succ_cons, List.take_succ_cons, List.take_zero, List.cons.injEq, and_true] at e3
  obtain rfl := e3
  exact ⟨⟨z0, z1, z2, z3⟩, _, rfl, ⟨w0, w1, w2⟩, s3⟩

theorem cells_S_PNode : Tryz.prog.cellsOf 142 = 1 := by kernel_rfl
theorem opens_S_PNode : Opens Tryz.prog 142 (SlR GPNode.R 4) := opens_slice Tryz.underlying142 cells_PNode (by decide) opens_PNode

theorem cells_Pat : Tryz.prog.cellsOf 144 = 1 := by kernel_rfl
theorem opens_Pat : Opens Tryz.prog 144 GPat.R := by
  intro H enc w spare held fuel cs x h
  obtain ⟨xs, n, rfl, _, hl, hxl, hf⟩ := DataW.trod_struct Tryz.underlying144 h
  rw [cells_Pat] at hl
  obtain ⟨c0, rfl⟩ := list_len1 hl
  have h0 : DataW.trod enc Tryz.prog w 0 spare held n 142 (List.take (Tryz.prog.cellsOf 142) (List.drop 0 [c0])) = xs[0]? := hf 0 _ rfl
  rw [cells_S_PNode, List.getElem?_eq_getElem (by rw [hxl]; decide)] at h0
  obtain ⟨z0, v0, e0, s0⟩ := opens_S_PNode _ _ _ _ _ _ _ _ h0
  simp only [List.drop_zero, List.drop_succ_cons, List.take_succ_cons, List.take_zero, List.cons.injEq, and_true] at e0
  obtain rfl := e0
  exact ⟨⟨z0⟩, _, rfl, trivial, s0⟩

theorem cells_TyItem : Tryz.prog.cellsOf 214 = 3 := by kernel_rfl
theorem opens_TyItem : Opens Tryz.prog 214 GTyItem.R := by
  intro H enc w spare held fuel cs x h
  obtain ⟨xs, n, rfl, _, hl, hxl, hf⟩ := DataW.trod_struct Tryz.underlying214 h
  rw [cells_TyItem] at hl
  obtain ⟨c0, c1, c2, rfl⟩ := list_len3 hl
  have h0 : DataW.trod enc Tryz.prog w 0 spare held n 3 (List.take (Tryz.prog.cellsOf 3) (List.drop 0 [c0, c1, c2])) = xs[0]? := hf 0 _ rfl
  rw [cells_int, List.getElem?_eq_getElem (by rw [hxl]; decide)] at h0
  have h1 : DataW.trod enc Tryz.prog w 0 spare held n 9 (List.take (Tryz.prog.cellsOf 9) (List.drop 1 [c0, c1, c2])) = xs[1]? := hf 1 _ rfl
  rw [cells_str, List.getElem?_eq_getElem (by rw [hxl]; decide)] at h1
  have h2 : DataW.trod enc Tryz.prog w 0 spare held n 3 (List.take (Tryz.prog.cellsOf 3) (List.drop 2 [c0, c1, c2])) = xs[2]? := hf 2 _ rfl
  rw [cells_int, List.getElem?_eq_getElem (by rw [hxl]; decide)] at h2
  obtain ⟨z0, e0, w0⟩ := opens_int_ _ _ _ _ _ _ _ _ h0
  simp only [List.drop_zero, List.drop_succ_cons, List.take_succ_cons, List.take_zero, List.cons.injEq, and_true] at e0
  obtain rfl := e0
  obtain ⟨z1, e1, w1⟩ := opens_str_ _ _ _ _ _ _ _ _ h1
  simp only [List.drop_zero, List.drop_succ_cons, List.take_succ_cons, List.take_zero, List.cons.injEq, and_true] at e1
  obtain rfl := e1
  obtain ⟨z2, e2, w2⟩ := opens_int_ _ _ _ _ _ _ _ _ h2
  simp only [List.drop_zero, List.drop_succ_cons, List.take_succ_cons, List.take_zero, List.cons.injEq, and_true] at e2
  obtain rfl := e2
  exact ⟨⟨z0, z1, z2⟩, rfl, ⟨w0, w1, w2⟩⟩

theorem cells_S_TyItem : Tryz.prog.cellsOf 136 = 1 := by kernel_rfl
theorem opens_S_TyItem : Opens Tryz.prog 136 (SlR GTyItem.R 3) := opens_slice Tryz.underlying136 cells_TyItem (by decide) opens_TyItem

theorem cells_Ty : Tryz.prog.cellsOf 138 = 1 := by kernel_rfl
theorem opens_Ty : Opens Tryz.prog 138 GTy.R := by
  intro H enc w spare held fuel cs x h
  obtain ⟨xs, n, rfl, _, hl, hxl, hf⟩ := DataW.trod_struct Tryz.underlying138 h
  rw [cells_Ty] at hl
  obtain ⟨c0, rfl⟩ := list_len1 hl
  have h0 : DataW.trod enc Tryz.prog w 0 spare held n 136 (List.take (Tryz.prog.cellsOf 136) (List.drop 0 [c0])) = xs[0]? := hf 0 _ rfl
  rw [cells_S_TyItem, List.getElem?_eq_getElem (by rw [hxl]; decide)] at h0
  obtain ⟨z0, v0, e0, s0⟩ := opens_S_TyItem _ _ _ _ _ _ _ _ h0
  simp only [List.drop_zero, List.drop_succ_cons, List.take_succ_cons, List.take_zero, List.cons.injEq, and_true] at e0
  obtain rfl := e0
  exact ⟨⟨z0⟩, _, rfl, trivial, s0⟩

theorem opens_bool_ : Opens Tryz.prog 4 BoolR := opens_bool Tryz.underlying4
theorem cells_bool : Tryz.prog.cellsOf 4 = 1 := by kernel_rfl

theorem cells_Con : Tryz.prog.cellsOf 140 = 3 := by kernel_rfl
theorem opens_Con : Opens Tryz.prog 140 GCon.R := by
  intro H enc w spare held fuel cs x h
  obtain ⟨xs, n, rfl, _, hl, hxl, hf⟩ := DataW.trod_struct Tryz.underlying140 h
  rw [cells_Con] at hl
  obtain ⟨c0, c1, c2, rfl⟩ := list_len3 hl
  have h0 : DataW.trod enc Tryz.prog w 0 spare held n 9 (List.take (Tryz.prog.cellsOf 9) (List.drop 0 [c0, c1, c2])) = xs[0]? := hf 0 _ rfl
  rw [cells_str, List.getElem?_eq_getElem (by rw [hxl]; decide)] at h0
  have h1 : DataW.trod enc Tryz.prog w 0 spare held n 4 (List.take (Tryz.prog.cellsOf 4) (List.drop 1 [c0, c1, c2])) = xs[1]? := hf 1 _ rfl
  rw [cells_bool, List.getElem?_eq_getElem (by rw [hxl]; decide)] at h1
  have h2 : DataW.trod enc Tryz.prog w 0 spare held n 138 (List.take (Tryz.prog.cellsOf 138) (List.drop 2 [c0, c1, c2])) = xs[2]? := hf 2 _ rfl
  rw [cells_Ty, List.getElem?_eq_getElem (by rw [hxl]; decide)] at h2
  obtain ⟨z0, e0, w0⟩ := opens_str_ _ _ _ _ _ _ _ _ h0
  simp only [List.drop_zero, List.drop_succ_cons, List.take_succ_cons, List.take_zero, List.cons.injEq, and_true] at e0
  obtain rfl := e0
  obtain ⟨z1, e1⟩ := opens_bool_ _ _ _ _ _ _ _ _ h1
  unfold BoolR at e1
  simp only [List.drop_zero, List.drop_succ_cons, List.take_succ_cons, List.take_zero, List.cons.injEq, and_true] at e1
  obtain rfl := e1
  obtain ⟨z2, v2_0, e2, w2, s2_0⟩ := opens_Ty _ _ _ _ _ _ _ _ h2
  unfold GTy.wf at w2
  simp only [List.drop_zero, List.drop_succ_cons, List.take_succ_cons, List.take_zero, List.cons.injEq, and_true] at e2
  obtain rfl := e2
  exact ⟨⟨z0, z1, z2⟩, _, rfl, w0, s2_0⟩

theorem cells_S_Con : Tryz.prog.cellsOf 55 = 1 := by kernel_rfl
theorem opens_S_Con : Opens Tryz.prog 55 (SlR GCon.R 3) := opens_slice Tryz.underlying55 cells_Con (by decide) opens_Con

theorem cells_Type : Tryz.prog.cellsOf 57 = 3 := by kernel_rfl
theorem opens_Type : Opens Tryz.prog 57 GType.R := by
  intro H enc w spare held fuel cs x h
  obtain ⟨xs, n, rfl, _, hl, hxl, hf⟩ := DataW.trod_struct Tryz.underlying57 h
  rw [cells_Type] at hl
  obtain ⟨c0, c1, c2, rfl⟩ := list_len3 hl
  have h0 : DataW.trod enc Tryz.prog w 0 spare held n 9 (List.take (Tryz.prog.cellsOf 9) (List.drop 0 [c0, c1, c2])) = xs[0]? := hf 0 _ rfl
  rw [cells_str, List.getElem?_eq_getElem (by rw [hxl]; decide)] at h0
  have h1 : DataW.trod enc Tryz.prog w 0 spare held n 3 (List.take (Tryz.prog.cellsOf 3) (List.drop 1 [c0, c1, c2])) = xs[1]? := hf 1 _ rfl
  rw [cells_int, List.getElem?_eq_getElem (by rw [hxl]; decide)] at h1
  have h2 : DataW.trod enc Tryz.prog w 0 spare held n 55 (List.take (Tryz.prog.cellsOf 55) (List.drop 2 [c0, c1, c2])) = xs[2]? := hf 2 _ rfl
  rw [cells_S_Con, List.getElem?_eq_getElem (by rw [hxl]; decide)] at h2
  obtain ⟨z0, e0, w0⟩ := opens_str_ _ _ _ _ _ _ _ _ h0
  simp only [List.drop_zero, List.drop_succ_cons, List.take_succ_cons, List.take_zero, List.cons.injEq, and_true] at e0
  obtain rfl := e0
  obtain ⟨z1, e1, w1⟩ := opens_int_ _ _ _ _ _ _ _ _ h1
  simp only [List.drop_zero, List.drop_succ_cons, List.take_succ_cons, List.take_zero, List.cons.injEq, and_true] at e1
  obtain rfl := e1
  obtain ⟨z2, v2, e2, s2⟩ := opens_S_Con _ _ _ _ _ _ _ _ h2
  simp only [List.drop_zero, List.drop_succ_cons, List.take_succ_cons, List.take_zero, List.cons.injEq, and_true] at e2
  obtain rfl := e2
  exact ⟨⟨z0, z1, z2⟩, _, rfl, ⟨w0, w1⟩, s2⟩

theorem cells_S_Pat : Tryz.prog.cellsOf 60 = 1 := by kernel_rfl
theorem opens_S_Pat : Opens Tryz.prog 60 (SlR GPat.R 1) := opens_slice Tryz.underlying60 cells_Pat (by decide) opens_Pat

theorem cells_Node : Tryz.prog.cellsOf 62 = 6 := by kernel_rfl
theorem opens_Node : Opens Tryz.prog 62 GNode.R := by
  intro H enc w spare held fuel cs x h
  obtain ⟨xs, n, rfl, _, hl, hxl, hf⟩ := DataW.trod_struct Tryz.underlying62 h
  rw [cells_Node] at hl
  obtain ⟨c0, c1, c2, c3, c4, c5, rfl⟩ := list_len6 hl
  have h0 : DataW.trod enc Tryz.prog w 0 spare held n 3 (List.take (Tryz.prog.cellsOf 3) (List.drop 0 [c0, c1, c2, c3, c4, c5])) = xs[0]? := hf 0 _ rfl
  rw [cells_int, List.getElem?_eq_getElem (by rw [hxl]; decide)] at h0
  have h1 : DataW.trod enc Tryz.prog w 0 spare held n 3 (List.take (Tryz.prog.cellsOf 3) (List.drop 1 [c0, c1, c2, c3, c4, c5])) = xs[1]? := hf 1 _ rfl
  rw [cells_int, List.getElem?_eq_getElem (by rw [hxl]; decide)] at h1
  have h2 : DataW.trod enc Tryz.prog w 0 spare held n 3 (List.take (Tryz.prog.cellsOf 3) (List.drop 2 [c0, c1, c2, c3, c4, c5])) = xs[2]? := hf 2 _ rfl
  rw [cells_int, List.getElem?_eq_getElem (by rw [hxl]; decide)] at h2
  have h3 : DataW.trod enc Tryz.prog w 0 spare held n 9 (List.take (Tryz.prog.cellsOf 9) (List.drop 3 [c0, c1, c2, c3, c4, c5])) = xs[3]? := hf 3 _ rfl
  rw [cells_str, List.getElem?_eq_getElem (by rw [hxl]; decide)] at h3
  have h4 : DataW.trod enc Tryz.prog w 0 spare held n 59 (List.take (Tryz.prog.cellsOf 59) (List.drop 4 [c0, c1, c2, c3, c4, c5])) = xs[4]? := hf 4 _ rfl
  rw [cells_S_int, List.getElem?_eq_getElem (by rw [hxl]; decide)] at h4
  have h5 : DataW.trod enc Tryz.prog w 0 spare held n 60 (List.take (Tryz.prog.cellsOf 60) (List.drop 5 [c0, c1, c2, c3, c4, c5])) = xs[5]? := hf 5 _ rfl
  rw [cells_S_Pat, List.getElem?_eq_getElem (by rw [hxl]; decide)] at h5
  obtain ⟨z0, e0, w0⟩ := opens_int_ _ _ _ _ _ _ _ _ h0
  simp only [List.drop_zero, List.drop_succ_cons, List.take_succ_cons, List.take_zero, List.cons.injEq, and_true] at e0
  obtain rfl := e0
  obtain ⟨z1, e1, w1⟩ := opens_int_ _ _ _ _ _ _ _ _ h1
  simp only [List.drop_zero, List.drop_succ_cons, List.take_succ_cons, List.take_zero, List.cons.injEq, and_true] at e1
  obtain rfl := e1
  obtain ⟨z2, e2, w2⟩ := opens_int_ _ _ _ _ _ _ _ _ h2
  simp only [List.drop_zero, List.drop_succ_cons, List.take_succ_cons, List.take_zero, List.cons.injEq, and_true] at e2
  obtain rfl := e2
  obtain ⟨z3, e3, w3⟩ := opens_str_ _ _ _ _ _ _ _ _ h3
  simp only [List.drop_zero, List.drop_succ_cons, List.take_succ_cons, List.take_zero, List.cons.injEq, and_true] at e3
  obtain rfl := e3
  obtain ⟨z4, v4, e4, s4⟩ := opens_S_int _ _ _ _ _ _ _ _ h4
  simp only [List.drop_zero, List.drop_succ_cons, List.take_succ_cons, List.take_zero, List.cons.injEq, and_true] at e4
  obtain rfl := e4
  obtain ⟨z5, v5, e5, s5⟩ := opens_S_Pat _ _ _ _ _ _ _ _ h5
  simp only [List.drop_zero, List.drop_succ_cons, List.take_succ_cons, List.take_zero, List.cons.injEq, and_true] at e5
  obtain rfl := e5
  exact ⟨⟨z0, z1, z2, z3, z4, z5⟩, _, _, rfl, ⟨w0, w1, w2, w3⟩, s4, s5⟩

theorem cells_S_Type : Tryz.prog.cellsOf 22 = 1 := by kernel_rfl
theorem opens_S_Type : Opens Tryz.prog 22 (SlR GType.R 3) := opens_slice Tryz.underlying22 cells_Type (by decide) opens_Type

theorem cells_S_Node : Tryz.prog.cellsOf 23 = 1 := by kernel_rfl
theorem opens_S_Node : Opens Tryz.prog 23 (SlR GNode.R 6) := opens_slice Tryz.underlying23 cells_Node (by decide) opens_Node

theorem cells_Program : Tryz.prog.cellsOf 25 = 2 := by kernel_rfl
theorem opens_Program : Opens Tryz.prog 25 GProgram.R := by
  intro H enc w spare held fuel cs x h
  obtain ⟨xs, n, rfl, _, hl, hxl, hf⟩ := DataW.trod_struct Tryz.underlying25 h
  rw [cells_Program] at hl
  obtain ⟨c0, c1, rfl⟩ := list_len2 hl
  have h0 : DataW.trod enc Tryz.prog w 0 spare held n 22 (List.take (Tryz.prog.cellsOf 22) (List.drop 0 [c0, c1])) = xs[0]? := hf 0 _ rfl
  rw [cells_S_Type, List.getElem?_eq_getElem (by rw [hxl]; decide)] at h0
  have h1 : DataW.trod enc Tryz.prog w 0 spare held n 23 (List.take (Tryz.prog.cellsOf 23) (List.drop 1 [c0, c1])) = xs[1]? := hf 1 _ rfl
  rw [cells_S_Node, List.getElem?_eq_getElem (by rw [hxl]; decide)] at h1
  obtain ⟨z0, v0, e0, s0⟩ := opens_S_Type _ _ _ _ _ _ _ _ h0
  simp only [List.drop_zero, List.drop_succ_cons, List.take_succ_cons, List.take_zero, List.cons.injEq, and_true] at e0
  obtain rfl := e0
  obtain ⟨z1, v1, e1, s1⟩ := opens_S_Node _ _ _ _ _ _ _ _ h1
  simp only [List.drop_zero, List.drop_succ_cons, List.take_succ_cons, List.take_zero, List.cons.injEq, and_true] at e1
  obtain rfl := e1
  exact ⟨⟨z0, z1⟩, _, _, rfl, trivial, s0, s1⟩

end Go.Proofs.YtaimekaagmcmnaaGreat
