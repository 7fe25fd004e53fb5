/- The law PoolMake: printed by gen_poolmakelaw.py. -/
import Derived.Test.YtajbgkpjmgmdhaaPoolMake4
import Derived.Test.YtajbgkpjmgmdhaaToOwnPool
import Derived.Test.YtajbgkpjmgmdhaaPoolMk
import Derived.Test.YtajbgkpjmgmdhaaEq
import Derived.Test.YtajbgkpjmgmdhaaSz
namespace Go.Proofs.Ytajbgkpjmgmdhaa
open Go.RowKit
set_option linter.unusedVariables false
set_option linter.unusedSimpArgs false
attribute [local go_sem] Ext.cell

theorem eqPool_t {p : GPool} {r s : List Value} {lo lo' : Nat} {w : World} (hx : GPool.R lo w r p) (hy : GPool.R lo' w s p) :
    Calls Try.prog 18 #[.agg r.toArray, .agg s.toArray] w fun e w' => e = .returned (.bool true) ∧ Below w.heap.size w w' :=
  (eqPool_c p p _ _ _ _ w hx hy).mono fun e w' ⟨he, hb⟩ => ⟨by rw [he, decide_eq_true rfl], hb⟩

/-- A pool in a box made behind it. -/
def PmBox (lo : Nat) (wx : World) (g : Nat) (v0 v1 : Value) (p : GPool) : Prop :=
  RowAt wx g 0 [v0, v1] ∧ OwnPool lo wx v0 v1 p ∧ lo ≤ g ∧ g < wx.heap.size ∧ ∀ k, v0.ownBlock = some k ∨ v1.ownBlock = some k → lo ≤ k ∧ k < wx.heap.size ∧ k ≠ g
def PmAt (w0 : World) (p : GPool) (c : GCell) (s t u : Value) (wx : World) : Prop :=
  ∃ g a0 c0 a1 c1, s = .pointer (some ⟨g, 0, none⟩) ∧ t = .int .i64 (pmAt p c) ∧ u = .int .i64 (pmCode p c) ∧
    PmBox w0.heap.size wx g (.slice a0 (pmPool p c).cells.length c0) (.slice a1 (pmPool p c).free.length c1) (pmPool p c) ∧ Below w0.heap.size w0 wx
theorem pm_at {w0 W wsp : World} {p : GPool} {c : GCell} {a0 a1 : Option Addr} {c0 c1 : Nat} {ty : TypeId} (O : OwnPool W.heap.size wsp (.slice a0 (pmPool p c).cells.length c0) (.slice a1 (pmPool p c).free.length c1) (pmPool p c)) (hW : w0.heap.size ≤ W.heap.size) (hb : Below w0.heap.size w0 wsp) :
    PmAt w0 p c (.pointer (some ⟨wsp.heap.size, 0, none⟩)) (.int .i64 (pmAt p c)) (.int .i64 (pmCode p c)) (wsp.alloc (.cells #[.slice a0 (pmPool p c).cells.length c0, .slice a1 (pmPool p c).free.length c1] ty)) := by
  have ha : Below wsp.heap.size wsp (wsp.alloc (.cells #[.slice a0 (pmPool p c).cells.length c0, .slice a1 (pmPool p c).free.length c1] ty)) := Below.alloc (Below.refl _ _) (Nat.le_refl _) _
  refine ⟨wsp.heap.size, a0, c0, a1, c1, rfl, rfl, rfl, ⟨RowAt.box wsp #[_, _] _, (O.below ha).mono hW, hb.size, by simp, fun k hk => ?_⟩, hb.trans (ha.mono hb.size)⟩
  have := ha.size
  rcases hk with h | h
  · have := O.cells.base k h; omega
  · have := O.free.base k h; omega
/-- The box was made ahead of the call. -/
theorem pm_at2 {w0 W wsp : World} {p : GPool} {c : GCell} {a0 a1 : Option Addr} {c0 c1 g : Nat} {x y : Value} (O : OwnPool W.heap.size wsp (.slice a0 (pmPool p c).cells.length c0) (.slice a1 (pmPool p c).free.length c1) (pmPool p c)) (zg : w0.heap.size ≤ g) (zl : g < W.heap.size)
    (z0 : wsp.cell? ⟨g, 0, none⟩ = some x) (z1 : wsp.cell? ⟨g, 1, none⟩ = some y) (hb : Below w0.heap.size w0 wsp) :
    PmAt w0 p c (.pointer (some ⟨g, 0, none⟩)) (.int .i64 (pmAt p c)) (.int .i64 (pmCode p c)) ((wsp.setCell ⟨g, 0, none⟩ (.slice a0 (pmPool p c).cells.length c0)).setCell ⟨g, 1, none⟩ (.slice a1 (pmPool p c).free.length c1)) := by
  have q := stored2 (x := .slice a0 (pmPool p c).cells.length c0) (y := .slice a1 (pmPool p c).free.length c1) z0 z1
  have K : Kept (· = g) wsp ((wsp.setCell ⟨g, 0, none⟩ (.slice a0 (pmPool p c).cells.length c0)).setCell ⟨g, 1, none⟩ (.slice a1 (pmPool p c).free.length c1)) := Kept.set (S := (· = g)) (p := ⟨g, 1, none⟩) (Kept.set (S := (· = g)) (p := ⟨g, 0, none⟩) (Kept.refl _ _) rfl _) rfl _
  have e0 := cell_setCell_eq wsp g 0 (.slice a0 (pmPool p c).cells.length c0) z0
  have hg := World.block_lt_of_cell? _ _ z0
  have hsz : ((wsp.setCell ⟨g, 0, none⟩ (.slice a0 (pmPool p c).cells.length c0)).setCell ⟨g, 1, none⟩ (.slice a1 (pmPool p c).free.length c1)).heap.size = wsp.heap.size := by simp [World.setCell]
  refine ⟨g, a0, c0, a1, c1, rfl, rfl, rfl, ⟨RowAt.of2 ?_ q.2, (O.mono (by omega)).kept K (fun k hk e => ?_) (fun k hk e => ?_), zg, by rw [hsz]; exact hg, fun k hk => ?_⟩, ?_⟩
  · exact (cell_setCell_ne _ g 1 0 _ (by omega)).trans q.1
  · have := O.cells.base k hk; omega
  · have := O.free.base k hk; omega
  · rw [hsz]
    rcases hk with h | h
    · have := O.cells.base k h; omega
    · have := O.free.base k h; omega
  · exact (hb.setCell (p := ⟨g, 0, none⟩) zg _).setCell (p := ⟨g, 1, none⟩) zg _
theorem alloc_facts {X W : World} {a b : Value} {t : TypeId} (h : Below (X.alloc (.cells #[a, b] t)).heap.size (X.alloc (.cells #[a, b] t)) W) :
    W.cell? ⟨X.heap.size, 0, none⟩ = some a ∧ W.cell? ⟨X.heap.size, 1, none⟩ = some b ∧ W.frozen? ⟨X.heap.size, 0, none⟩ = false ∧ W.frozen? ⟨X.heap.size, 1, none⟩ = false :=
  have r := ((RowAt.box X #[a, b] t).below h).box2
  have f := (Wr.box X #[a, b] t).below h
  ⟨r.1, r.2, f.frz 0 (by simp), f.frz 1 (by simp)⟩
theorem alloc_le {X W : World} {a b : Value} {t : TypeId} (h : Below (X.alloc (.cells #[a, b] t)).heap.size (X.alloc (.cells #[a, b] t)) W) {B : Nat} (hX : B ≤ X.heap.size) : B ≤ X.heap.size := hX
theorem alloc_lt {X W : World} {a b : Value} {t : TypeId} (h : Below (X.alloc (.cells #[a, b] t)).heap.size (X.alloc (.cells #[a, b] t)) W) : X.heap.size < (X.alloc (.cells #[a, b] t)).heap.size := by simp
theorem facts_next {W W' : World} {g : Nat} {a b : Value} (h : Below W.heap.size W W') (z0 : W.cell? ⟨g, 0, none⟩ = some a) (z1 : W.cell? ⟨g, 1, none⟩ = some b) (f0 : W.frozen? ⟨g, 0, none⟩ = false) (f1 : W.frozen? ⟨g, 1, none⟩ = false) :
    W'.cell? ⟨g, 0, none⟩ = some a ∧ W'.cell? ⟨g, 1, none⟩ = some b ∧ W'.frozen? ⟨g, 0, none⟩ = false ∧ W'.frozen? ⟨g, 1, none⟩ = false :=
  ⟨cell_below h z0, cell_below h z1, by rw [h.frozen (p := ⟨g, 0, none⟩) (World.block_lt_of_cell? W _ z0), f0], by rw [h.frozen (p := ⟨g, 1, none⟩) (World.block_lt_of_cell? W _ z1), f1]⟩
theorem cellR {lo lo' : Nat} {W W' : World} {r : List Value} {x : GCell} (h : GCell.R lo W r x) : GCell.R lo' W' r x := h
theorem undrew {Y W : World} (h : Below Y.drew.heap.size Y.drew W) : Below Y.heap.size Y W := Below.trans (by go_grown) h
theorem ne_of_le {B g b : Nat} (h : B ≤ g) (h' : b < B) : g ≠ b := by omega

theorem pm_len (p : GPool) (c : GCell) : (pmPool p c).cells.length ≤ p.cells.length ∧ (pmPool p c).free.length ≤ p.free.length := by
  unfold pmPool
  split
  · simp only [List.length_set, List.length_take]; omega
  · simp [GPool.zero]
/-- A pool in a box made behind it, from a copy. -/
theorem pm_box {W wt : World} {p : GPool} {a0 a1 : Option Addr} {c0 c1 : Nat} {ty : TypeId} (hs : W.heap.size ≤ wt.heap.size) (O : OwnPool W.heap.size wt (.slice a0 p.cells.length c0) (.slice a1 p.free.length c1) p) :
    PmBox W.heap.size (wt.alloc (.cells #[.slice a0 p.cells.length c0, .slice a1 p.free.length c1] ty)) wt.heap.size (.slice a0 p.cells.length c0) (.slice a1 p.free.length c1) p := by
  have ha : Below wt.heap.size wt (wt.alloc (.cells #[.slice a0 p.cells.length c0, .slice a1 p.free.length c1] ty)) := Below.alloc (Below.refl _ _) (Nat.le_refl _) _
  refine ⟨RowAt.box wt #[_, _] _, O.below ha, hs, by simp, fun k hk => ?_⟩
  have := ha.size
  rcases hk with h | h
  · have := O.cells.base k h; omega
  · have := O.free.base k h; omega

namespace fnExactPoolMake
set_option maxRecDepth 100000 in
set_option maxHeartbeats 8000000 in
theorem law (x0 : GPool) (x1 : GCell) (r0 r1 : List Value) (w : World) (hx0 : GPool.R 0 w r0 x0) (hx1 : GCell.R 0 w r1 x1) :
    Calls Try.prog 4 #[.agg r0.toArray, .agg r1.toArray] w fun en w' => en = .returned (.bool true) ∧ Below w.heap.size w w' := by
  have Hx0 := hx0
  have Hx1 := hx1
  obtain ⟨u0, u1, rfl, -, a0, a1⟩ := hx0
  obtain ⟨pa, pc, rfl⟩ := a0.form
  obtain ⟨qa, qc, rfl⟩ := a1.form
  obtain ⟨rfl, -⟩ := hx1
  clear a0 a1
  have z0 := GPool.bulk_nonneg x0
  have z1 := GCell.bulk_nonneg x1
  go_enter Try.func4, Try.ntmps4
  go_upto_region 1 with fail
  have B : RowAt (w.alloc (.cells #[.slice pa x0.cells.length pc, .slice qa x0.free.length qc] 41)) (w.heap.size) 0 [.slice pa x0.cells.length pc, .slice qa x0.free.length qc] := RowAt.box w #[.slice pa x0.cells.length pc, .slice qa x0.free.length qc] 41
  have B := B.below (show Below (w.alloc (.cells #[.slice pa x0.cells.length pc, .slice qa x0.free.length qc] 41)).heap.size (w.alloc (.cells #[.slice pa x0.cells.length pc, .slice qa x0.free.length qc] 41)) ((w.alloc (.cells #[.slice pa x0.cells.length pc, .slice qa x0.free.length qc] 41)).alloc (.cells #[.int .i64 x1.kind, .int .i64 x1.n, .string x1.s, .int .i64 x1.a.kind, .int .i64 x1.a.n, .string x1.a.s, .int .i64 x1.b.kind, .int .i64 x1.b.n, .string x1.b.s] 44)) by go_grown)
  have D : RowAt ((w.alloc (.cells #[.slice pa x0.cells.length pc, .slice qa x0.free.length qc] 41)).alloc (.cells #[.int .i64 x1.kind, .int .i64 x1.n, .string x1.s, .int .i64 x1.a.kind, .int .i64 x1.a.n, .string x1.a.s, .int .i64 x1.b.kind, .int .i64 x1.b.n, .string x1.b.s] 44)) (w.heap.size + 1) 0 [.int .i64 x1.kind, .int .i64 x1.n, .string x1.s, .int .i64 x1.a.kind, .int .i64 x1.a.n, .string x1.a.s, .int .i64 x1.b.kind, .int .i64 x1.b.n, .string x1.b.s] := by have h := RowAt.box (w.alloc (.cells #[.slice pa x0.cells.length pc, .slice qa x0.free.length qc] 41)) #[.int .i64 x1.kind, .int .i64 x1.n, .string x1.s, .int .i64 x1.a.kind, .int .i64 x1.a.n, .string x1.a.s, .int .i64 x1.b.kind, .int .i64 x1.b.n, .string x1.b.s] 44; simp only [World.size_alloc] at h; exact h
  have hw : Below w.heap.size w ((w.alloc (.cells #[.slice pa x0.cells.length pc, .slice qa x0.free.length qc] 41)).alloc (.cells #[.int .i64 x1.kind, .int .i64 x1.n, .string x1.s, .int .i64 x1.a.kind, .int .i64 x1.a.n, .string x1.a.s, .int .i64 x1.b.kind, .int .i64 x1.b.n, .string x1.b.s] 44)) := by go_grown
  generalize ((w.alloc (.cells #[.slice pa x0.cells.length pc, .slice qa x0.free.length qc] 41)).alloc (.cells #[.int .i64 x1.kind, .int .i64 x1.n, .string x1.s, .int .i64 x1.a.kind, .int .i64 x1.a.n, .string x1.a.s, .int .i64 x1.b.kind, .int .i64 x1.b.n, .string x1.b.s] 44)) = w0 at *
  obtain ⟨b_0, b_1⟩ := B.box2; have hsB := World.block_lt_of_cell? _ _ b_0; dsimp only at hsB; obtain ⟨d_0, d_1, d_2, d_3, d_4, d_5, d_6, d_7, d_8⟩ := D.box9; have hsD := World.block_lt_of_cell? _ _ d_0; dsimp only at hsD
  go_wp2_with fail
  refine (szPool_c x0 _ 0 _ (by omega) (by omega) _ (GPool.good.below Hx0 hw)).mono ?_
  rintro en w1 ⟨n1, rfl, (⟨g0, rfl⟩ | ⟨g0, rfl⟩), hb⟩
  rotate_left
  · replace hw : Below w.heap.size w w1 := hw.trans (hb.mono hw.size)
    go_wp2
    go_returns
    exact ⟨rfl, hw⟩
  have hw := hw.trans (hb.mono hw.size); have B := B.below hb; obtain ⟨b_0, b_1⟩ := B.box2; have hsB := World.block_lt_of_cell? _ _ b_0; dsimp only at hsB; have D := D.below hb; obtain ⟨d_0, d_1, d_2, d_3, d_4, d_5, d_6, d_7, d_8⟩ := D.box9; have hsD := World.block_lt_of_cell? _ _ d_0; dsimp only at hsD; clear hb
  go_wp2_with fail
  refine (szCell_c x1 _ 0 _ (by omega) (by omega) _ (GCell.good.below Hx1 hw)).mono ?_
  rintro en w2 ⟨n2, rfl, (⟨g1, rfl⟩ | ⟨g1, rfl⟩), hb⟩
  rotate_left
  · replace hw : Below w.heap.size w w2 := hw.trans (hb.mono hw.size)
    go_wp2
    go_returns
    exact ⟨rfl, hw⟩
  have hw := hw.trans (hb.mono hw.size); have B := B.below hb; obtain ⟨b_0, b_1⟩ := B.box2; have hsB := World.block_lt_of_cell? _ _ b_0; dsimp only at hsB; have D := D.below hb; obtain ⟨d_0, d_1, d_2, d_3, d_4, d_5, d_6, d_7, d_8⟩ := D.box9; have hsD := World.block_lt_of_cell? _ _ d_0; dsimp only at hsD; clear hb
  have c1 := fun W (hW : Below w.heap.size w W) => toPool_o x0 _ 0 (by omega) W (GPool.good.below Hx0 hW)
  have c2 := fun W (hW : Below w.heap.size w W) => toCell_c x1 _ 0 (by omega) W (GCell.good.below Hx1 hW)
  replace c1 := Lib.hid c1; replace c2 := Lib.hid c2
  have n0 := length_le_bulkS (f := GCell.bulk) GCell.bulk_nonneg x0.cells
  have hbk0 := bulkS_nonneg GCell.bulk_nonneg x0.cells
  have hbulk : x0.bulk ≤ 1048576 := by omega
  have hN0 : x0.cells.length ≤ 1048576 := by have := hbulk; simp only [GPool.bulk] at this; omega
  have hM0 : x0.free.length ≤ 1048576 := by have := hbulk; simp only [GPool.bulk] at this; omega
  clear n0 hbk0
  have hlen := Lib.hid (pm_len x0 x1)
  go_upto_region 8 with fail
  go_cut [6, 7, 8] (fun s t u wx => PmAt w2 x0 x1 s t u wx)
  case first =>
    have hK := Below.refl w2.heap.size w2; have hsK := hK.size
    go_region_held3 (fun w' => w'.cell? ⟨w.heap.size, 0, none⟩ = some (.slice pa x0.cells.length pc) ∧ w'.cell? ⟨w.heap.size, 1, none⟩ = some (.slice qa x0.free.length qc) ∧ w'.cell? ⟨w.heap.size + 1, 0, none⟩ = some (.int .i64 x1.kind) ∧ w'.cell? ⟨w.heap.size + 1, 1, none⟩ = some (.int .i64 x1.n) ∧ w'.cell? ⟨w.heap.size + 1, 2, none⟩ = some (.string x1.s) ∧ w'.cell? ⟨w.heap.size + 1, 3, none⟩ = some (.int .i64 x1.a.kind) ∧ w'.cell? ⟨w.heap.size + 1, 4, none⟩ = some (.int .i64 x1.a.n) ∧ w'.cell? ⟨w.heap.size + 1, 5, none⟩ = some (.string x1.a.s) ∧ w'.cell? ⟨w.heap.size + 1, 6, none⟩ = some (.int .i64 x1.b.kind) ∧ w'.cell? ⟨w.heap.size + 1, 7, none⟩ = some (.int .i64 x1.b.n) ∧ w'.cell? ⟨w.heap.size + 1, 8, none⟩ = some (.string x1.b.s))
      (first | go_keep | (refine ⟨cell_below hbk ?_, cell_below hbk ?_, cell_below hbk ?_, cell_below hbk ?_, cell_below hbk ?_, cell_below hbk ?_, cell_below hbk ?_, cell_below hbk ?_, cell_below hbk ?_, cell_below hbk ?_, cell_below hbk ?_⟩ <;> go_keep) | (refine ⟨cell_below (Below.alloc (Below.refl _ _) (Nat.le_refl _) _) ?_, cell_below (Below.alloc (Below.refl _ _) (Nat.le_refl _) _) ?_, cell_below (Below.alloc (Below.refl _ _) (Nat.le_refl _) _) ?_, cell_below (Below.alloc (Below.refl _ _) (Nat.le_refl _) _) ?_, cell_below (Below.alloc (Below.refl _ _) (Nat.le_refl _) _) ?_, cell_below (Below.alloc (Below.refl _ _) (Nat.le_refl _) _) ?_, cell_below (Below.alloc (Below.refl _ _) (Nat.le_refl _) _) ?_, cell_below (Below.alloc (Below.refl _ _) (Nat.le_refl _) _) ?_, cell_below (Below.alloc (Below.refl _ _) (Nat.le_refl _) _) ?_, cell_below (Below.alloc (Below.refl _ _) (Nat.le_refl _) _) ?_, cell_below (Below.alloc (Below.refl _ _) (Nat.le_refl _) _) ?_⟩ <;> first | assumption | go_keep) | (refine ⟨?_, ?_, ?_, ?_, ?_, ?_, ?_, ?_, ?_, ?_, ?_⟩ <;> go_keep))
      (first
        | (go_at_call 16; (with_reducible refine (c1.out _ (hw.trans (Below.mono (by go_grown) hw.size))).mono ?_); rintro en ws0 ⟨t0, t1, rfl, OT, hbk⟩; obtain ⟨ta, tc, rfl⟩ := OT.cells.form; obtain ⟨tb, td, rfl⟩ := OT.free.form; (first | (obtain ⟨zz0, zz1, zf0, zf1⟩ := alloc_facts hbk; have zg := alloc_le hbk (show w2.heap.size ≤ _ from by first | exact hK.size | simp); have zn0 := ne_of_le zg (show w.heap.size < w2.heap.size by omega); have zn1 := ne_of_le zg (show w.heap.size + 1 < w2.heap.size by omega); (try simp only [World.size_drew] at zz0 zz1 zf0 zf1); (try simp only [World.size_drew] at zn0); (try simp only [World.size_drew] at zn1)) | (have hbk := undrew hbk; obtain ⟨zz0, zz1, zf0, zf1⟩ := alloc_facts hbk; have zg := alloc_le hbk (show w2.heap.size ≤ _ from by first | exact hK.size | simp); have zn0 := ne_of_le zg (show w.heap.size < w2.heap.size by omega); have zn1 := ne_of_le zg (show w.heap.size + 1 < w2.heap.size by omega); (try simp only [World.size_drew] at zz0 zz1 zf0 zf1); (try simp only [World.size_drew] at zn0); (try simp only [World.size_drew] at zn1)) | (have zzA := facts_next hbk zz0 zz1 zf0 zf1; obtain ⟨zz0, zz1, zf0, zf1⟩ := zzA) | skip); have hK : Below w2.heap.size w2 ws0 := Below.trans (by go_grown) (hbk.mono (by first | (simp; done) | (have := hK.size; simp; omega) | (have := hK.size; omega))); have hsK := hK.size)
        | (go_at_call 17; (with_reducible refine (c2.out _ (hw.trans (Below.mono (by go_grown) hw.size))).mono ?_); rintro en ws1 ⟨tr, rfl, qc1, hbk⟩; obtain rfl := qc1.1; (first | (obtain ⟨zz0, zz1, zf0, zf1⟩ := alloc_facts hbk; have zg := alloc_le hbk (show w2.heap.size ≤ _ from by first | exact hK.size | simp); have zn0 := ne_of_le zg (show w.heap.size < w2.heap.size by omega); have zn1 := ne_of_le zg (show w.heap.size + 1 < w2.heap.size by omega); (try simp only [World.size_drew] at zz0 zz1 zf0 zf1); (try simp only [World.size_drew] at zn0); (try simp only [World.size_drew] at zn1)) | (have hbk := undrew hbk; obtain ⟨zz0, zz1, zf0, zf1⟩ := alloc_facts hbk; have zg := alloc_le hbk (show w2.heap.size ≤ _ from by first | exact hK.size | simp); have zn0 := ne_of_le zg (show w.heap.size < w2.heap.size by omega); have zn1 := ne_of_le zg (show w.heap.size + 1 < w2.heap.size by omega); (try simp only [World.size_drew] at zz0 zz1 zf0 zf1); (try simp only [World.size_drew] at zn0); (try simp only [World.size_drew] at zn1)) | (have zzA := facts_next hbk zz0 zz1 zf0 zf1; obtain ⟨zz0, zz1, zf0, zf1⟩ := zzA) | skip); (first | (have OT := OT.below hbk) | (have OT := OT.below (Below.trans (Below.alloc (Below.refl _ _) (Nat.le_refl _) _) (hbk.mono (by simp)))) | skip); have hK : Below w2.heap.size w2 ws1 := Below.trans (by go_grown) (hbk.mono (by first | (simp; done) | (have := hK.size; simp; omega) | (have := hK.size; omega))); have hsK := hK.size)
        | (go_at_call 10; (with_reducible refine (spec_PoolMake_c x0 x1 _ _ _ 0 (by omega) _ (GPool.good.below OT.R (by go_grown)) (cellR qc1)).mono ?_); rintro en wsp ⟨s0, s1, rfl, OS, hbk⟩; obtain ⟨sa, sc, rfl⟩ := OS.cells.form; obtain ⟨sb, sd, rfl⟩ := OS.free.form; have hz9 := hK.size; (first | (obtain ⟨zz0, zz1, zf0, zf1⟩ := alloc_facts hbk; have zg := alloc_le hbk (show w2.heap.size ≤ _ from by first | exact hK.size | simp); have zl := alloc_lt hbk; have zn0 := ne_of_le zg (show w.heap.size < w2.heap.size by omega); have zn1 := ne_of_le zg (show w.heap.size + 1 < w2.heap.size by omega); (try simp only [World.size_drew] at zz0 zz1 zf0 zf1); (try simp only [World.size_drew] at zn0); (try simp only [World.size_drew] at zn1); (try simp only [World.size_drew] at zl)) | (have hbk := undrew hbk; obtain ⟨zz0, zz1, zf0, zf1⟩ := alloc_facts hbk; have zg := alloc_le hbk (show w2.heap.size ≤ _ from by first | exact hK.size | simp); have zl := alloc_lt hbk; have zn0 := ne_of_le zg (show w.heap.size < w2.heap.size by omega); have zn1 := ne_of_le zg (show w.heap.size + 1 < w2.heap.size by omega); (try simp only [World.size_drew] at zz0 zz1 zf0 zf1); (try simp only [World.size_drew] at zn0); (try simp only [World.size_drew] at zn1); (try simp only [World.size_drew] at zl)) | (have zzA := facts_next hbk zz0 zz1 zf0 zf1; have zl := World.block_lt_of_cell? _ _ zz0; dsimp only at zl; obtain ⟨zz0, zz1, zf0, zf1⟩ := zzA) | skip); have hK : Below w2.heap.size w2 wsp := Below.trans (by go_grown) (hbk.mono (by first | (simp; done) | (have := hK.size; simp; omega) | (have := hK.size; omega))); have hsK := hK.size; obtain ⟨yB0, yB1⟩ := (B.below hK).box2; obtain ⟨yD0, yD1, yD2, yD3, yD4, yD5, yD6, yD7, yD8⟩ := (D.below hK).box9; have hne0 : wsp.heap.size ≠ w.heap.size := (by have := hK.size; omega); have hne1 : wsp.heap.size ≠ w.heap.size + 1 := (by have := hK.size; omega)))
    all_goals go_wp2_with fail
    all_goals go_meet
    all_goals first | exact pm_at OS (by first | exact hz9 | (simp; omega) | omega) hK | exact pm_at2 OS (by first | exact zg | exact Nat.le_refl _) (by first | exact zl | (simp; done) | (simp; omega)) zz0 zz1 hK
  obtain ⟨gw, wa, wc0, wb, wd0, rfl, rfl, rfl, ⟨BW, FW, gw1, gw2, gw3⟩, hb⟩ := hcut
  obtain ⟨w3, rfl⟩ : ∃ W, W = wc := ⟨_, rfl⟩
  have hD3 : w.heap.size + 1 < w3.heap.size := by omega
  clear b_0 b_1 d_0 d_1 d_2 d_3 d_4 d_5 d_6 d_7 d_8
  clear hsB hsD
  replace B := B.below hb; replace D := D.below hb; replace hw := hw.trans (hb.mono hw.size)
  clear hb
  obtain ⟨b_0, b_1⟩ := B.box2
  go_upto_region 10 with (go_at_call 16; (with_reducible refine (c1.out _ hw).mono ?_); rintro en w4 ⟨t0, t1, rfl, OT, hb⟩; obtain ⟨xa, xc, rfl⟩ := OT.cells.form; obtain ⟨xb, xd, rfl⟩ := OT.free.form)
  have hz4 := hb.size
  clear b_0 b_1
  replace B := B.below hb; replace D := D.below hb; replace BW := BW.below hb; replace FW := FW.below hb; replace hw := hw.trans (hb.mono hw.size)
  clear hb
  obtain ⟨w5, hW5⟩ : ∃ W, W = w4.alloc (.cells #[.slice xa x0.cells.length xc, .slice xb x0.free.length xd] 26) := ⟨_, rfl⟩
  rw [← hW5]
  obtain ⟨BX, FX, gx1, gx2, gx3⟩ := pm_box (ty := 26) hz4 OT
  rw [← hW5] at BX FX gx2 gx3
  have hb : Below w4.heap.size w4 w5 := by rw [hW5]; go_grown
  clear hW5 OT
  replace B := B.below hb; replace D := D.below hb; replace BW := BW.below hb; replace FW := FW.below hb; replace hw := hw.trans (hb.mono hw.size)
  clear hb
  obtain ⟨d_0, d_1, d_2, d_3, d_4, d_5, d_6, d_7, d_8⟩ := D.box9
  obtain ⟨bx_0, bx_1⟩ := BX.box2
  have hsD := World.block_lt_of_cell? _ _ d_0; dsimp only at hsD
  go_upto_region 10 with fail
  go_cut [10, 11, 12] (fun s t u wx => PmAt w5 x0 x1 s t u wx)
  case first =>
    have hK := Below.refl w5.heap.size w5; have hsK := hK.size
    go_region_held3 (fun w' => w'.cell? ⟨w4.heap.size, 0, none⟩ = some (.slice xa x0.cells.length xc) ∧ w'.cell? ⟨w4.heap.size, 1, none⟩ = some (.slice xb x0.free.length xd) ∧ w'.cell? ⟨w.heap.size + 1, 0, none⟩ = some (.int .i64 x1.kind) ∧ w'.cell? ⟨w.heap.size + 1, 1, none⟩ = some (.int .i64 x1.n) ∧ w'.cell? ⟨w.heap.size + 1, 2, none⟩ = some (.string x1.s) ∧ w'.cell? ⟨w.heap.size + 1, 3, none⟩ = some (.int .i64 x1.a.kind) ∧ w'.cell? ⟨w.heap.size + 1, 4, none⟩ = some (.int .i64 x1.a.n) ∧ w'.cell? ⟨w.heap.size + 1, 5, none⟩ = some (.string x1.a.s) ∧ w'.cell? ⟨w.heap.size + 1, 6, none⟩ = some (.int .i64 x1.b.kind) ∧ w'.cell? ⟨w.heap.size + 1, 7, none⟩ = some (.int .i64 x1.b.n) ∧ w'.cell? ⟨w.heap.size + 1, 8, none⟩ = some (.string x1.b.s))
      (first | go_keep | (refine ⟨cell_below hbk ?_, cell_below hbk ?_, cell_below hbk ?_, cell_below hbk ?_, cell_below hbk ?_, cell_below hbk ?_, cell_below hbk ?_, cell_below hbk ?_, cell_below hbk ?_, cell_below hbk ?_, cell_below hbk ?_⟩ <;> go_keep) | (refine ⟨cell_below (Below.alloc (Below.refl _ _) (Nat.le_refl _) _) ?_, cell_below (Below.alloc (Below.refl _ _) (Nat.le_refl _) _) ?_, cell_below (Below.alloc (Below.refl _ _) (Nat.le_refl _) _) ?_, cell_below (Below.alloc (Below.refl _ _) (Nat.le_refl _) _) ?_, cell_below (Below.alloc (Below.refl _ _) (Nat.le_refl _) _) ?_, cell_below (Below.alloc (Below.refl _ _) (Nat.le_refl _) _) ?_, cell_below (Below.alloc (Below.refl _ _) (Nat.le_refl _) _) ?_, cell_below (Below.alloc (Below.refl _ _) (Nat.le_refl _) _) ?_, cell_below (Below.alloc (Below.refl _ _) (Nat.le_refl _) _) ?_, cell_below (Below.alloc (Below.refl _ _) (Nat.le_refl _) _) ?_, cell_below (Below.alloc (Below.refl _ _) (Nat.le_refl _) _) ?_⟩ <;> first | assumption | go_keep) | (refine ⟨?_, ?_, ?_, ?_, ?_, ?_, ?_, ?_, ?_, ?_, ?_⟩ <;> go_keep))
      (first
        | (go_at_call 17; (with_reducible refine (c2.out _ (hw.trans (Below.mono (by go_grown) hw.size))).mono ?_); rintro en ws1 ⟨tr, rfl, qc1, hbk⟩; obtain rfl := qc1.1; (first | (obtain ⟨zz0, zz1, zf0, zf1⟩ := alloc_facts hbk; have zg := alloc_le hbk (show w5.heap.size ≤ _ from by first | exact hK.size | simp); have zn0 := ne_of_le zg (show w4.heap.size < w5.heap.size by omega); have zn1 := ne_of_le zg (show w.heap.size + 1 < w5.heap.size by omega); (try simp only [World.size_drew] at zz0 zz1 zf0 zf1); (try simp only [World.size_drew] at zn0); (try simp only [World.size_drew] at zn1)) | (have hbk := undrew hbk; obtain ⟨zz0, zz1, zf0, zf1⟩ := alloc_facts hbk; have zg := alloc_le hbk (show w5.heap.size ≤ _ from by first | exact hK.size | simp); have zn0 := ne_of_le zg (show w4.heap.size < w5.heap.size by omega); have zn1 := ne_of_le zg (show w.heap.size + 1 < w5.heap.size by omega); (try simp only [World.size_drew] at zz0 zz1 zf0 zf1); (try simp only [World.size_drew] at zn0); (try simp only [World.size_drew] at zn1)) | (have zzA := facts_next hbk zz0 zz1 zf0 zf1; obtain ⟨zz0, zz1, zf0, zf1⟩ := zzA) | skip); (first | (have OT := OT.below hbk) | (have OT := OT.below (Below.trans (Below.alloc (Below.refl _ _) (Nat.le_refl _) _) (hbk.mono (by simp)))) | skip); have hK : Below w5.heap.size w5 ws1 := Below.trans (by go_grown) (hbk.mono (by first | (simp; done) | (have := hK.size; simp; omega) | (have := hK.size; omega))); have hsK := hK.size)
        | (go_at_call 9; (with_reducible refine (impl_PoolMake_c x0 x1 _ _ _ 0 (by omega) _ (GPool.good.below FX.R (hK.trans (Below.mono (by go_grown) hK.size))) (cellR qc1)).mono ?_); rintro en wsp ⟨s0, s1, rfl, OS, hbk⟩; obtain ⟨sa, sc, rfl⟩ := OS.cells.form; obtain ⟨sb, sd, rfl⟩ := OS.free.form; have hz9 := hK.size; (first | (obtain ⟨zz0, zz1, zf0, zf1⟩ := alloc_facts hbk; have zg := alloc_le hbk (show w5.heap.size ≤ _ from by first | exact hK.size | simp); have zl := alloc_lt hbk; have zn0 := ne_of_le zg (show w4.heap.size < w5.heap.size by omega); have zn1 := ne_of_le zg (show w.heap.size + 1 < w5.heap.size by omega); (try simp only [World.size_drew] at zz0 zz1 zf0 zf1); (try simp only [World.size_drew] at zn0); (try simp only [World.size_drew] at zn1); (try simp only [World.size_drew] at zl)) | (have hbk := undrew hbk; obtain ⟨zz0, zz1, zf0, zf1⟩ := alloc_facts hbk; have zg := alloc_le hbk (show w5.heap.size ≤ _ from by first | exact hK.size | simp); have zl := alloc_lt hbk; have zn0 := ne_of_le zg (show w4.heap.size < w5.heap.size by omega); have zn1 := ne_of_le zg (show w.heap.size + 1 < w5.heap.size by omega); (try simp only [World.size_drew] at zz0 zz1 zf0 zf1); (try simp only [World.size_drew] at zn0); (try simp only [World.size_drew] at zn1); (try simp only [World.size_drew] at zl)) | (have zzA := facts_next hbk zz0 zz1 zf0 zf1; have zl := World.block_lt_of_cell? _ _ zz0; dsimp only at zl; obtain ⟨zz0, zz1, zf0, zf1⟩ := zzA) | skip); have hK : Below w5.heap.size w5 wsp := Below.trans (by go_grown) (hbk.mono (by first | (simp; done) | (have := hK.size; simp; omega) | (have := hK.size; omega))); have hsK := hK.size; obtain ⟨yBX0, yBX1⟩ := (BX.below hK).box2; obtain ⟨yD0, yD1, yD2, yD3, yD4, yD5, yD6, yD7, yD8⟩ := (D.below hK).box9; have hne0 : wsp.heap.size ≠ w4.heap.size := (by have := hK.size; omega); have hne1 : wsp.heap.size ≠ w.heap.size + 1 := (by have := hK.size; omega)))
    all_goals go_wp2_with fail
    all_goals go_meet
    all_goals first | exact pm_at OS (by first | exact hz9 | (simp; omega) | omega) hK | exact pm_at2 OS (by first | exact zg | exact Nat.le_refl _) (by first | exact zl | (simp; done) | (simp; omega)) zz0 zz1 hK
  obtain ⟨gg, ga, gc0, gb, gd0, rfl, rfl, rfl, ⟨BG, FG, gg1, gg2, gg3⟩, hb⟩ := hcut
  obtain ⟨w6, rfl⟩ : ∃ W, W = wc := ⟨_, rfl⟩
  clear d_0 d_1 d_2 d_3 d_4 d_5 d_6 d_7 d_8 bx_0 bx_1
  clear hsD
  replace B := B.below hb; replace D := D.below hb; replace BW := BW.below hb; replace FW := FW.below hb; replace BX := BX.below hb; replace FX := FX.below hb; replace hw := hw.trans (hb.mono hw.size)
  clear hb
  obtain ⟨bg_0, bg_1⟩ := BG.box2
  obtain ⟨bw_0, bw_1⟩ := BW.box2
  go_wp2_with fail
  refine (eqPool_t FG.R FW.R).mono ?_
  rintro e w7 ⟨rfl, hb⟩
  clear bg_0 bg_1 bw_0 bw_1
  replace B := B.below hb; replace D := D.below hb; replace BW := BW.below hb; replace FW := FW.below hb; replace BX := BX.below hb; replace FX := FX.below hb; replace BG := BG.below hb; replace FG := FG.below hb; replace gg2 := Nat.lt_of_lt_of_le gg2 hb.size; replace hw := hw.trans (hb.mono hw.size)
  clear hb
  obtain ⟨bx_0, bx_1⟩ := BX.box2
  obtain ⟨b_0, b_1⟩ := B.box2
  have hsB := World.block_lt_of_cell? _ _ b_0; dsimp only at hsB
  go_upto_region 13 with fail
  have hK := Below.refl w7.heap.size w7; have hsK := hK.size
  go_region_held3 (fun w' => w'.cell? ⟨w4.heap.size, 0, none⟩ = some (.slice xa x0.cells.length xc) ∧ w'.cell? ⟨w4.heap.size, 1, none⟩ = some (.slice xb x0.free.length xd) ∧ w'.cell? ⟨w.heap.size, 0, none⟩ = some (.slice pa x0.cells.length pc) ∧ w'.cell? ⟨w.heap.size, 1, none⟩ = some (.slice qa x0.free.length qc))
    (first | go_keep | (refine ⟨cell_below hbk ?_, cell_below hbk ?_, cell_below hbk ?_, cell_below hbk ?_⟩ <;> go_keep) | (refine ⟨cell_below (Below.alloc (Below.refl _ _) (Nat.le_refl _) _) ?_, cell_below (Below.alloc (Below.refl _ _) (Nat.le_refl _) _) ?_, cell_below (Below.alloc (Below.refl _ _) (Nat.le_refl _) _) ?_, cell_below (Below.alloc (Below.refl _ _) (Nat.le_refl _) _) ?_⟩ <;> first | assumption | go_keep) | (refine ⟨?_, ?_, ?_, ?_⟩ <;> go_keep))
    (first
      | (go_at_call 16; (with_reducible refine (c1.out _ (hw.trans (Below.mono (by go_grown) hw.size))).mono ?_); rintro en w8 ⟨t0, t1, rfl, OT, hbk⟩; obtain ⟨ta, tc, rfl⟩ := OT.cells.form; obtain ⟨tb, td, rfl⟩ := OT.free.form; have hK : Below w7.heap.size w7 w8 := Below.trans (by go_grown) (hbk.mono (by first | (simp; done) | (have := hK.size; simp; omega) | (have := hK.size; omega))))
      | (go_at_call 18; (with_reducible refine (eqPool_t (GPool.good.below FX.R hK) OT.R).mono ?_); rintro en w9 ⟨rfl, hbk⟩; have hb : Below w7.heap.size w7 w9 := hK.trans (hbk.mono hK.size)))
  clear bx_0 bx_1 b_0 b_1
  clear hsB hK hbk OT
  replace B := B.below hb; replace D := D.below hb; replace BW := BW.below hb; replace FW := FW.below hb; replace BX := BX.below hb; replace FX := FX.below hb; replace BG := BG.below hb; replace FG := FG.below hb; replace gg2 := Nat.lt_of_lt_of_le gg2 hb.size; replace hw := hw.trans (hb.mono hw.size)
  clear hb
  obtain ⟨bx_0, bx_1⟩ := BX.box2
  go_wp2_with fail
  refine (markPool_c x0 w3.heap.size _ _ _ _ rfl rfl hN0 hM0 w9 FX (by have := hw.size; omega)).mono ?_
  rintro e w10 ⟨rfl, hMX, hb, hK⟩
  have d1 : decide (1 + (x0.cells.length : Int) * 9 + x0.free.length < 0) = false := decide_eq_false (by omega)
  have hs10 := hb.size
  have nB : ∀ k, (k < w3.heap.size ∨ w5.heap.size ≤ k) → ¬ ((Value.slice xa x0.cells.length xc).ownBlock = some k ∨ (Value.slice xb x0.free.length xd).ownBlock = some k) := fun k hk h => by have := gx3 k h; omega
  clear bx_0 bx_1
  replace B := B.kept hK (nB _ (by omega)); replace D := D.kept hK (nB _ (by omega)); replace BW := BW.kept hK (nB _ (by omega)); replace BG := BG.kept hK (nB _ (by omega))
  replace FW := FW.kept hK (fun g hg => nB g (.inl (by have := gw3 g (.inl hg); omega))) (fun g hg => nB g (.inl (by have := gw3 g (.inr hg); omega)))
  replace FG := FG.kept hK (fun g hg => nB g (.inr (by have := gg3 g (.inl hg); omega))) (fun g hg => nB g (.inr (by have := gg3 g (.inr hg); omega)))
  replace gg2 := Nat.lt_of_lt_of_le gg2 hb.size; replace hw := hw.trans (hb.mono (by have := hw.size; omega))
  clear hb hK FX BX hMX nB
  obtain ⟨bg_0, bg_1⟩ := BG.box2
  obtain ⟨bw_0, bw_1⟩ := BW.box2
  go_wp2_with fail
  refine (eqPool_t FG.R FW.R).mono ?_
  rintro e w11 ⟨rfl, hb⟩
  clear bg_0 bg_1 bw_0 bw_1
  replace B := B.below hb; replace D := D.below hb; replace BW := BW.below hb; replace FW := FW.below hb; replace BG := BG.below hb; replace FG := FG.below hb; replace gg2 := Nat.lt_of_lt_of_le gg2 hb.size; replace hw := hw.trans (hb.mono hw.size)
  clear hb
  obtain ⟨bg_0, bg_1⟩ := BG.box2
  obtain ⟨hl0, hl1⟩ := hlen.out
  go_wp2_with fail
  refine (markPool_c (pmPool x0 x1) w5.heap.size _ _ _ _ rfl rfl (by omega) (by omega) w11 FG (by have := hw.size; omega)).mono ?_
  rintro e w12 ⟨rfl, hM, hb, hK⟩
  have nB : ∀ k, (k < w5.heap.size ∨ k = gg) → ¬ ((Value.slice ga (pmPool x0 x1).cells.length gc0).ownBlock = some k ∨ (Value.slice gb (pmPool x0 x1).free.length gd0).ownBlock = some k) := fun k hk h => by have := gg3 k h; omega
  clear bg_0 bg_1
  replace B := B.kept hK (nB _ (by omega)); replace D := D.kept hK (nB _ (by omega)); replace BW := BW.kept hK (nB _ (by omega)); replace BG := BG.kept hK (nB _ (by omega))
  replace FW := FW.kept hK (fun g hg => nB g (.inl (by have := gw3 g (.inl hg); omega))) (fun g hg => nB g (.inl (by have := gw3 g (.inr hg); omega)))
  replace gg2 := Nat.lt_of_lt_of_le gg2 hb.size; replace hw := hw.trans (hb.mono (by have := hw.size; omega))
  clear hb hK FG nB
  obtain ⟨bg_0, bg_1⟩ := BG.box2
  go_wp2_with fail
  refine (heldPool_c _ _ _ _ (by omega) (by omega) w12 hM).mono ?_
  rintro e w13 ⟨rfl, hb⟩
  have d2 : decide (1 + ((pmPool x0 x1).cells.length : Int) * 9 + (pmPool x0 x1).free.length < 0) = false := decide_eq_false (by omega)
  clear bg_0 bg_1
  replace B := B.below hb; replace D := D.below hb; replace BW := BW.below hb; replace FW := FW.below hb; replace BG := BG.below hb; replace hM := hM.below hb; replace gg2 := Nat.lt_of_lt_of_le gg2 hb.size; replace hw := hw.trans (hb.mono hw.size)
  clear hb
  obtain ⟨b_0, b_1⟩ := B.box2
  obtain ⟨d_0, d_1, d_2, d_3, d_4, d_5, d_6, d_7, d_8⟩ := D.box9
  have hsB := World.block_lt_of_cell? _ _ b_0; dsimp only at hsB; have hsD := World.block_lt_of_cell? _ _ d_0; dsimp only at hsD
  go_upto_region 27 with fail
  go_cut [16, 17, 18] (fun s t u wx => PmAt w13 x0 x1 s t u wx)
  case first =>
    have hK := Below.refl w13.heap.size w13; have hsK := hK.size
    go_region_held3 (fun w' => w'.cell? ⟨w.heap.size, 0, none⟩ = some (.slice pa x0.cells.length pc) ∧ w'.cell? ⟨w.heap.size, 1, none⟩ = some (.slice qa x0.free.length qc) ∧ w'.cell? ⟨w.heap.size + 1, 0, none⟩ = some (.int .i64 x1.kind) ∧ w'.cell? ⟨w.heap.size + 1, 1, none⟩ = some (.int .i64 x1.n) ∧ w'.cell? ⟨w.heap.size + 1, 2, none⟩ = some (.string x1.s) ∧ w'.cell? ⟨w.heap.size + 1, 3, none⟩ = some (.int .i64 x1.a.kind) ∧ w'.cell? ⟨w.heap.size + 1, 4, none⟩ = some (.int .i64 x1.a.n) ∧ w'.cell? ⟨w.heap.size + 1, 5, none⟩ = some (.string x1.a.s) ∧ w'.cell? ⟨w.heap.size + 1, 6, none⟩ = some (.int .i64 x1.b.kind) ∧ w'.cell? ⟨w.heap.size + 1, 7, none⟩ = some (.int .i64 x1.b.n) ∧ w'.cell? ⟨w.heap.size + 1, 8, none⟩ = some (.string x1.b.s))
      (first | go_keep | (refine ⟨cell_below hbk ?_, cell_below hbk ?_, cell_below hbk ?_, cell_below hbk ?_, cell_below hbk ?_, cell_below hbk ?_, cell_below hbk ?_, cell_below hbk ?_, cell_below hbk ?_, cell_below hbk ?_, cell_below hbk ?_⟩ <;> go_keep) | (refine ⟨cell_below (Below.alloc (Below.refl _ _) (Nat.le_refl _) _) ?_, cell_below (Below.alloc (Below.refl _ _) (Nat.le_refl _) _) ?_, cell_below (Below.alloc (Below.refl _ _) (Nat.le_refl _) _) ?_, cell_below (Below.alloc (Below.refl _ _) (Nat.le_refl _) _) ?_, cell_below (Below.alloc (Below.refl _ _) (Nat.le_refl _) _) ?_, cell_below (Below.alloc (Below.refl _ _) (Nat.le_refl _) _) ?_, cell_below (Below.alloc (Below.refl _ _) (Nat.le_refl _) _) ?_, cell_below (Below.alloc (Below.refl _ _) (Nat.le_refl _) _) ?_, cell_below (Below.alloc (Below.refl _ _) (Nat.le_refl _) _) ?_, cell_below (Below.alloc (Below.refl _ _) (Nat.le_refl _) _) ?_, cell_below (Below.alloc (Below.refl _ _) (Nat.le_refl _) _) ?_⟩ <;> first | assumption | go_keep) | (refine ⟨?_, ?_, ?_, ?_, ?_, ?_, ?_, ?_, ?_, ?_, ?_⟩ <;> go_keep))
      (first
        | (go_at_call 16; (with_reducible refine (c1.out _ (hw.trans (Below.mono (by go_grown) hw.size))).mono ?_); rintro en ws0 ⟨t0, t1, rfl, OT, hbk⟩; obtain ⟨ta, tc, rfl⟩ := OT.cells.form; obtain ⟨tb, td, rfl⟩ := OT.free.form; (first | (obtain ⟨zz0, zz1, zf0, zf1⟩ := alloc_facts hbk; have zg := alloc_le hbk (show w13.heap.size ≤ _ from by first | exact hK.size | simp); have zn0 := ne_of_le zg (show w.heap.size < w13.heap.size by omega); have zn1 := ne_of_le zg (show w.heap.size + 1 < w13.heap.size by omega); (try simp only [World.size_drew] at zz0 zz1 zf0 zf1); (try simp only [World.size_drew] at zn0); (try simp only [World.size_drew] at zn1)) | (have hbk := undrew hbk; obtain ⟨zz0, zz1, zf0, zf1⟩ := alloc_facts hbk; have zg := alloc_le hbk (show w13.heap.size ≤ _ from by first | exact hK.size | simp); have zn0 := ne_of_le zg (show w.heap.size < w13.heap.size by omega); have zn1 := ne_of_le zg (show w.heap.size + 1 < w13.heap.size by omega); (try simp only [World.size_drew] at zz0 zz1 zf0 zf1); (try simp only [World.size_drew] at zn0); (try simp only [World.size_drew] at zn1)) | (have zzA := facts_next hbk zz0 zz1 zf0 zf1; obtain ⟨zz0, zz1, zf0, zf1⟩ := zzA) | skip); have hK : Below w13.heap.size w13 ws0 := Below.trans (by go_grown) (hbk.mono (by first | (simp; done) | (have := hK.size; simp; omega) | (have := hK.size; omega))); have hsK := hK.size)
        | (go_at_call 17; (with_reducible refine (c2.out _ (hw.trans (Below.mono (by go_grown) hw.size))).mono ?_); rintro en ws1 ⟨tr, rfl, qc1, hbk⟩; obtain rfl := qc1.1; (first | (obtain ⟨zz0, zz1, zf0, zf1⟩ := alloc_facts hbk; have zg := alloc_le hbk (show w13.heap.size ≤ _ from by first | exact hK.size | simp); have zn0 := ne_of_le zg (show w.heap.size < w13.heap.size by omega); have zn1 := ne_of_le zg (show w.heap.size + 1 < w13.heap.size by omega); (try simp only [World.size_drew] at zz0 zz1 zf0 zf1); (try simp only [World.size_drew] at zn0); (try simp only [World.size_drew] at zn1)) | (have hbk := undrew hbk; obtain ⟨zz0, zz1, zf0, zf1⟩ := alloc_facts hbk; have zg := alloc_le hbk (show w13.heap.size ≤ _ from by first | exact hK.size | simp); have zn0 := ne_of_le zg (show w.heap.size < w13.heap.size by omega); have zn1 := ne_of_le zg (show w.heap.size + 1 < w13.heap.size by omega); (try simp only [World.size_drew] at zz0 zz1 zf0 zf1); (try simp only [World.size_drew] at zn0); (try simp only [World.size_drew] at zn1)) | (have zzA := facts_next hbk zz0 zz1 zf0 zf1; obtain ⟨zz0, zz1, zf0, zf1⟩ := zzA) | skip); (first | (have OT := OT.below hbk) | (have OT := OT.below (Below.trans (Below.alloc (Below.refl _ _) (Nat.le_refl _) _) (hbk.mono (by simp)))) | skip); have hK : Below w13.heap.size w13 ws1 := Below.trans (by go_grown) (hbk.mono (by first | (simp; done) | (have := hK.size; simp; omega) | (have := hK.size; omega))); have hsK := hK.size)
        | (go_at_call 9; (with_reducible refine (impl_PoolMake_c x0 x1 _ _ _ 0 (by omega) _ (GPool.good.below OT.R (by go_grown)) (cellR qc1)).mono ?_); rintro en wsp ⟨s0, s1, rfl, OS, hbk⟩; obtain ⟨sa, sc, rfl⟩ := OS.cells.form; obtain ⟨sb, sd, rfl⟩ := OS.free.form; have hz9 := hK.size; (first | (obtain ⟨zz0, zz1, zf0, zf1⟩ := alloc_facts hbk; have zg := alloc_le hbk (show w13.heap.size ≤ _ from by first | exact hK.size | simp); have zl := alloc_lt hbk; have zn0 := ne_of_le zg (show w.heap.size < w13.heap.size by omega); have zn1 := ne_of_le zg (show w.heap.size + 1 < w13.heap.size by omega); (try simp only [World.size_drew] at zz0 zz1 zf0 zf1); (try simp only [World.size_drew] at zn0); (try simp only [World.size_drew] at zn1); (try simp only [World.size_drew] at zl)) | (have hbk := undrew hbk; obtain ⟨zz0, zz1, zf0, zf1⟩ := alloc_facts hbk; have zg := alloc_le hbk (show w13.heap.size ≤ _ from by first | exact hK.size | simp); have zl := alloc_lt hbk; have zn0 := ne_of_le zg (show w.heap.size < w13.heap.size by omega); have zn1 := ne_of_le zg (show w.heap.size + 1 < w13.heap.size by omega); (try simp only [World.size_drew] at zz0 zz1 zf0 zf1); (try simp only [World.size_drew] at zn0); (try simp only [World.size_drew] at zn1); (try simp only [World.size_drew] at zl)) | (have zzA := facts_next hbk zz0 zz1 zf0 zf1; have zl := World.block_lt_of_cell? _ _ zz0; dsimp only at zl; obtain ⟨zz0, zz1, zf0, zf1⟩ := zzA) | skip); have hK : Below w13.heap.size w13 wsp := Below.trans (by go_grown) (hbk.mono (by first | (simp; done) | (have := hK.size; simp; omega) | (have := hK.size; omega))); have hsK := hK.size; obtain ⟨yB0, yB1⟩ := (B.below hK).box2; obtain ⟨yD0, yD1, yD2, yD3, yD4, yD5, yD6, yD7, yD8⟩ := (D.below hK).box9; have hne0 : wsp.heap.size ≠ w.heap.size := (by have := hK.size; omega); have hne1 : wsp.heap.size ≠ w.heap.size + 1 := (by have := hK.size; omega)))
    all_goals go_wp2_with fail
    all_goals go_meet
    all_goals first | exact pm_at OS (by first | exact hz9 | (simp; omega) | omega) hK | exact pm_at2 OS (by first | exact zg | exact Nat.le_refl _) (by first | exact zl | (simp; done) | (simp; omega)) zz0 zz1 hK
  obtain ⟨gh, ha, hc0, hb0, hd0, rfl, rfl, rfl, ⟨BH, FH, gh1, gh2, gh3⟩, hb⟩ := hcut
  obtain ⟨w14, rfl⟩ : ∃ W, W = wc := ⟨_, rfl⟩
  clear b_0 b_1 d_0 d_1 d_2 d_3 d_4 d_5 d_6 d_7 d_8
  clear hsB hsD B D
  replace BW := BW.below hb; replace FW := FW.below hb; replace BG := BG.below hb; replace hM := hM.below hb; replace gg2 := Nat.lt_of_lt_of_le gg2 hb.size; replace hw := hw.trans (hb.mono hw.size)
  clear hb
  obtain ⟨bh_0, bh_1⟩ := BH.box2
  obtain ⟨bw_0, bw_1⟩ := BW.box2
  go_wp2_with fail
  refine (eqPool_t FH.R FW.R).mono ?_
  rintro e w15 ⟨rfl, hb⟩
  clear bh_0 bh_1 bw_0 bw_1
  replace BG := BG.below hb; replace hM := hM.below hb; replace gg2 := Nat.lt_of_lt_of_le gg2 hb.size; replace hw := hw.trans (hb.mono hw.size)
  clear hb
  obtain ⟨bg_0, bg_1⟩ := BG.box2
  go_wp2_with fail
  refine (heldPool_c _ _ _ _ (by omega) (by omega) w15 hM).mono ?_
  rintro e w16 ⟨rfl, hb⟩
  replace hw := hw.trans (hb.mono hw.size)
  go_wp2_with fail
  go_returns
  exact ⟨rfl, hw⟩
end fnExactPoolMake
end Go.Proofs.Ytajbgkpjmgmdhaa
