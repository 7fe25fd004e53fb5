/- Parts of the proof, merged: Cnt4, Libs, MarkS, LibNames. -/
import Derived.Test.YtcjoheplilaccaaGreatLt36
/- The program's Occurs and FreeIn. -/
namespace Go.Proofs.YtcjoheplilaccaaGreat
open Go.RowKit
set_option linter.unusedVariables false
set_option linter.unusedSimpArgs false
attribute [local go_sem] Ext.cell

/-- A right program whose tree is x. -/
structure TreeOf (p : GProgram) (x : ExT) : Prop where
  ok : progOk p = true
  sm : ProgSm p
  laid : Laid p.nodes 0 x
  n : p.nodes.length ≤ 600
  pats : ∀ y ∈ p.nodes, PatsSm y.pats
  tree : okE x = true
theorem TreeOf.pos {p : GProgram} {x : ExT} (h : TreeOf p x) : 0 < p.nodes.length := by
  have := h.laid 0 _ (List.getElem?_eq_getElem (by rw [layE_len]; exact szE_pos x))
  have := (List.getElem?_eq_some_iff.1 this).1
  omega
theorem TreeOf.sz {p : GProgram} {x : ExT} (h : TreeOf p x) : szE x ≤ 600 := by
  have hp := szE_pos x
  have := h.laid (szE x - 1) _ (List.getElem?_eq_getElem (by rw [layE_len]; omega))
  have := (List.getElem?_eq_some_iff.1 this).1
  have := h.n
  omega

set_option maxRecDepth 100000 in
set_option maxHeartbeats 8000000 in
theorem Occurs_c (p : GProgram) (x : ExT) (hx : TreeOf p x) (name : ByteArray) (r : List Value) (lo : Nat) (w : World) (hr : GProgram.R lo w r p) :
    Calls Tryz.prog 39 #[.agg r.toArray, .int .i64 0, .string name] w fun e w' => e = .returned (.int .i64 (countE name x : Int)) ∧ Below w.heap.size w w' := by
  have cP := fun W (hW : Below w.heap.size w W) => ProgramOk_c p hx.sm r lo W (GProgram.good.below hr hW)
  rw [hx.ok] at cP
  have hn1 := hx.n
  have hpos := hx.pos
  have hszx := hx.sz
  have hok := hx.tree
  have hg := fun nv lo W (hW : Sl GNode.R 6 lo W nv p.nodes) => grow_c p.nodes hx.n hx.pats (szE x) x 0 nv lo W (Nat.le_refl _) hx.laid hW
  obtain ⟨Ts, N⟩ := p
  obtain ⟨tv, nv, rfl, -, hT, hN⟩ := hr
  dsimp only at *
  have hNb := fun W (hW : Below w.heap.size w W) => hN.below GNode.good hW
  obtain ⟨na, nc, rfl⟩ := hN.form
  obtain ⟨ta, tc, rfl⟩ := hT.form
  generalize Ts.length = tn at *
  obtain ⟨n, hn⟩ : ∃ n, n = N.length := ⟨_, rfl⟩
  rw [← hn] at hn1 hpos cP hNb ⊢
  have cG := fun W (hW : Below w.heap.size w W) => hg _ lo W (hNb W hW)
  replace cG : ∀ W, Below w.heap.size w W → Calls Tryz.prog 60 #[.slice na n nc, .int .i64 0] W (GrPost x W) := cG
  have cC := fun (W : World) q F (hX : ExR F (fun g => w.heap.size ≤ g) W (.pointer (some ⟨q, 0, none⟩)) x) => count_c name F x _ _ W hX hok hszx
  have dw : decide ((0 : Int) ≤ 0 ∧ (0 : Int) ≤ (n : Int) - 1) = true := decide_eq_true (by omega)
  have hwr : IntKind.i64.wrap ((n : Int) - 1) = (n : Int) - 1 := IntWalk.i64_in _ (by omega)
  generalize hcx : countE name x = cx at *
  clear hT hN hNb hg
  replace cP : ∀ W, Below w.heap.size w W → Calls Tryz.prog 58 #[.agg #[.slice ta tn tc, .slice na n nc]] W fun e w' => e = .returned (.bool true) ∧ Below W.heap.size W w' := cP
  replace cP := Lib.hid cP; replace cG := Lib.hid cG; replace cC := Lib.hid cC; replace hn := Lib.hid hn; replace hok := Lib.hid hok; replace hcx := Lib.hid hcx; replace hx := Lib.hid hx
  show Calls Tryz.prog 39 #[.agg #[.slice ta tn tc, .slice na n nc], .int .i64 0, .string name] w _
  go_enter Tryz.func39, Tryz.ntmps39
  go_upto_region 1 with fail
  have D : RowAt (w.alloc (.cells #[.slice ta tn tc, .slice na n nc] 46)) (w.heap.size) 0 [.slice ta tn tc, .slice na n nc] := RowAt.box w #[.slice ta tn tc, .slice na n nc] 46
  have hw : Below w.heap.size w (w.alloc (.cells #[.slice ta tn tc, .slice na n nc] 46)) := by go_grown
  generalize (w.alloc (.cells #[.slice ta tn tc, .slice na n nc] 46)) = w0 at *
  obtain ⟨d_0, d_1⟩ := D.box2; have hsD := World.block_lt_of_cell? _ _ d_0; dsimp only at hsD
  have hc := within_c 0 0 ((n : Int) - 1)
  rw [dw] at hc
  replace hc := Lib.hid hc
  go_upto_region 3 with (first | (go_at_call 58; ((with_reducible refine (cP.out _ hw).mono ?_); rintro e w1 ⟨rfl, hb⟩; have hw := hw.trans (hb.mono hw.size); have D := D.below hb; obtain ⟨d_0, d_1⟩ := D.box2; have hsD := World.block_lt_of_cell? _ _ d_0; dsimp only at hsD; clear hb)) | (go_at_call 59; (with_reducible refine (hc.out _).mono ?_); rintro e w1 ⟨rfl, rfl⟩))
  go_wp2_with (first
    | (go_at_call 60; (with_reducible refine (cG.out _ hw).mono ?_); rintro e w2 ⟨q2, F2, rfl, X2, hb2⟩; have X3 := ExR.to X2 (Same.below (Below.refl _ _)) (fun g h1 _ => Nat.le_trans hw.size h1); clear X2; have hw2 := hw.trans (hb2.mono hw.size))
    | (go_at_call 61; (with_reducible refine (cC.out _ _ _ X3).mono ?_); rintro e w3 ⟨rfl, hb3⟩))
  go_returns
  exact ⟨rfl, hw2.trans (hb3.mono hw2.size)⟩

set_option maxRecDepth 100000 in
set_option maxHeartbeats 8000000 in
theorem FreeIn_c (p : GProgram) (x : ExT) (hx : TreeOf p x) (name : ByteArray) (r : List Value) (lo : Nat) (w : World) (hr : GProgram.R lo w r p) :
    Calls Tryz.prog 29 #[.agg r.toArray, .int .i64 0, .string name] w fun e w' => e = .returned (.bool (decide (0 < countE name x))) ∧ Below w.heap.size w w' := by
  have cO := fun W (hW : Below w.heap.size w W) => Occurs_c p x hx name r lo W (GProgram.good.below hr hW)
  obtain ⟨tv, nv, rfl, -, hT, hN⟩ := hr
  generalize countE name x = cx at *
  have d1 : decide ((0 : Int) < (cx : Int)) = decide (0 < cx) := by congr 1; exact propext (by omega)
  clear hT hN
  replace cO : ∀ W, Below w.heap.size w W → Calls Tryz.prog 39 #[.agg #[tv, nv], .int .i64 0, .string name] W fun e w' => e = .returned (.int .i64 (cx : Int)) ∧ Below W.heap.size W w' := cO
  replace cO := Lib.hid cO
  generalize hd : decide (0 < cx) = dd at *
  replace hd := Lib.hid hd
  show Calls Tryz.prog 29 #[.agg #[tv, nv], .int .i64 0, .string name] w _
  go_enter Tryz.func29, Tryz.ntmps29
  go_upto_region 1 with fail
  have D : RowAt (w.alloc (.cells #[tv, nv] 46)) (w.heap.size) 0 [tv, nv] := RowAt.box w #[tv, nv] 46
  have hw : Below w.heap.size w (w.alloc (.cells #[tv, nv] 46)) := by go_grown
  generalize (w.alloc (.cells #[tv, nv] 46)) = w0 at *
  obtain ⟨d_0, d_1⟩ := D.box2; have hsD := World.block_lt_of_cell? _ _ d_0; dsimp only at hsD
  go_wp2_with (go_at_call 39; ((with_reducible refine (cO.out _ hw).mono ?_); rintro e w1 ⟨rfl, hb⟩; have hw := hw.trans (hb.mono hw.size); have D := D.below hb; obtain ⟨d_0, d_1⟩ := D.box2; have hsD := World.block_lt_of_cell? _ _ d_0; dsimp only at hsD; clear hb))
  go_returns
  exact ⟨by have h := hd.out; subst h; rfl, hw⟩
end Go.Proofs.YtcjoheplilaccaaGreat

/- The library's names and texts; libFun; the texts lex, parse, and are right. Printed by gen_libs.py. -/
namespace Go.Proofs.YtcjoheplilaccaaGreat
open Go.RowKit
set_option linter.unusedVariables false
set_option linter.unusedSimpArgs false
attribute [local go_sem] Ext.cell

def ln_id : ByteArray := ⟨#[105, 100]⟩
def lt_id : ByteArray := ⟨#[102, 117, 110, 32, 120, 32, 45, 62, 32, 120]⟩
def ln_both : ByteArray := ⟨#[98, 111, 116, 104]⟩
def lt_both : ByteArray := ⟨#[102, 117, 110, 32, 102, 32, 45, 62, 32, 102, 117, 110, 32, 112, 32, 45, 62, 32, 109, 97, 116, 99, 104, 32, 112, 32, 119, 105, 116, 104, 32, 40, 97, 44, 32, 98, 41, 32, 45, 62, 32, 102, 32, 97, 32, 98, 32, 101, 110, 100]⟩
def ln_not : ByteArray := ⟨#[110, 111, 116]⟩
def lt_not : ByteArray := ⟨#[102, 117, 110, 32, 98, 32, 45, 62, 32, 105, 102, 32, 98, 32, 116, 104, 101, 110, 32, 102, 97, 108, 115, 101, 32, 101, 108, 115, 101, 32, 116, 114, 117, 101]⟩
def ln_abs : ByteArray := ⟨#[97, 98, 115]⟩
def lt_abs : ByteArray := ⟨#[102, 117, 110, 32, 110, 32, 45, 62, 32, 105, 102, 32, 110, 32, 60, 32, 48, 32, 116, 104, 101, 110, 32, 48, 32, 45, 32, 110, 32, 101, 108, 115, 101, 32, 110]⟩
def ln_len : ByteArray := ⟨#[108, 101, 110]⟩
def lt_len : ByteArray := ⟨#[102, 117, 110, 32, 108, 32, 45, 62, 32, 109, 97, 116, 99, 104, 32, 108, 32, 119, 105, 116, 104, 32, 91, 93, 32, 45, 62, 32, 48, 32, 124, 32, 120, 32, 58, 58, 32, 114, 32, 45, 62, 32, 49, 32, 43, 32, 108, 101, 110, 32, 114, 32, 101, 110, 100]⟩
def ln_app : ByteArray := ⟨#[97, 112, 112]⟩
def lt_app : ByteArray := ⟨#[102, 117, 110, 32, 97, 32, 45, 62, 32, 102, 117, 110, 32, 98, 32, 45, 62, 32, 109, 97, 116, 99, 104, 32, 97, 32, 119, 105, 116, 104, 32, 91, 93, 32, 45, 62, 32, 98, 32, 124, 32, 120, 32, 58, 58, 32, 114, 32, 45, 62, 32, 120, 32, 58, 58, 32, 97, 112, 112, 32, 114, 32, 98, 32, 101, 110, 100]⟩
def ln_rev : ByteArray := ⟨#[114, 101, 118]⟩
def lt_rev : ByteArray := ⟨#[102, 117, 110, 32, 108, 32, 45, 62, 32, 109, 97, 116, 99, 104, 32, 108, 32, 119, 105, 116, 104, 32, 91, 93, 32, 45, 62, 32, 91, 93, 32, 124, 32, 120, 32, 58, 58, 32, 114, 32, 45, 62, 32, 97, 112, 112, 32, 40, 114, 101, 118, 32, 114, 41, 32, 40, 120, 32, 58, 58, 32, 91, 93, 41, 32, 101, 110, 100]⟩
def ln_map : ByteArray := ⟨#[109, 97, 112]⟩
def lt_map : ByteArray := ⟨#[102, 117, 110, 32, 102, 32, 45, 62, 32, 102, 117, 110, 32, 108, 32, 45, 62, 32, 109, 97, 116, 99, 104, 32, 108, 32, 119, 105, 116, 104, 32, 91, 93, 32, 45, 62, 32, 91, 93, 32, 124, 32, 120, 32, 58, 58, 32, 114, 32, 45, 62, 32, 102, 32, 120, 32, 58, 58, 32, 109, 97, 112, 32, 102, 32, 114, 32, 101, 110, 100]⟩
def ln_fold : ByteArray := ⟨#[102, 111, 108, 100]⟩
def lt_fold : ByteArray := ⟨#[102, 117, 110, 32, 102, 32, 45, 62, 32, 102, 117, 110, 32, 97, 32, 45, 62, 32, 102, 117, 110, 32, 108, 32, 45, 62, 32, 109, 97, 116, 99, 104, 32, 108, 32, 119, 105, 116, 104, 32, 91, 93, 32, 45, 62, 32, 97, 32, 124, 32, 120, 32, 58, 58, 32, 114, 32, 45, 62, 32, 102, 111, 108, 100, 32, 102, 32, 40, 102, 32, 97, 32, 120, 41, 32, 114, 32, 101, 110, 100]⟩
def ln_sum : ByteArray := ⟨#[115, 117, 109]⟩
def lt_sum : ByteArray := ⟨#[102, 117, 110, 32, 108, 32, 45, 62, 32, 102, 111, 108, 100, 32, 40, 102, 117, 110, 32, 97, 32, 45, 62, 32, 102, 117, 110, 32, 98, 32, 45, 62, 32, 97, 32, 43, 32, 98, 41, 32, 48, 32, 108]⟩
def ln_each : ByteArray := ⟨#[101, 97, 99, 104]⟩
def lt_each : ByteArray := ⟨#[102, 117, 110, 32, 102, 32, 45, 62, 32, 102, 117, 110, 32, 108, 32, 45, 62, 32, 109, 97, 116, 99, 104, 32, 108, 32, 119, 105, 116, 104, 32, 91, 93, 32, 45, 62, 32, 40, 41, 32, 124, 32, 120, 32, 58, 58, 32, 114, 32, 45, 62, 32, 102, 32, 120, 59, 32, 101, 97, 99, 104, 32, 102, 32, 114, 32, 101, 110, 100]⟩
def ln_upto : ByteArray := ⟨#[117, 112, 116, 111]⟩
def lt_upto : ByteArray := ⟨#[102, 117, 110, 32, 110, 32, 45, 62, 32, 105, 102, 32, 110, 32, 60, 32, 49, 32, 116, 104, 101, 110, 32, 91, 93, 32, 101, 108, 115, 101, 32, 97, 112, 112, 32, 40, 117, 112, 116, 111, 32, 40, 110, 32, 45, 32, 49, 41, 41, 32, 40, 110, 32, 58, 58, 32, 91, 93, 41]⟩
def ln_shows : ByteArray := ⟨#[115, 104, 111, 119, 115]⟩
def lt_shows : ByteArray := ⟨#[102, 117, 110, 32, 108, 32, 45, 62, 32, 101, 97, 99, 104, 32, 112, 114, 105, 110, 116, 32, 108]⟩
def libL : List ByteArray := [ln_id, ln_both, ln_not, ln_abs, ln_len, ln_app, ln_rev, ln_map, ln_fold, ln_sum, ln_each, ln_upto, ln_shows]
def libFunP (s : ByteArray) : ByteArray := if eqS s ln_id then lt_id else if eqS s ln_both then lt_both else if eqS s ln_not then lt_not else if eqS s ln_abs then lt_abs else if eqS s ln_len then lt_len else if eqS s ln_app then lt_app else if eqS s ln_rev then lt_rev else if eqS s ln_map then lt_map else if eqS s ln_fold then lt_fold else if eqS s ln_sum then lt_sum else if eqS s ln_each then lt_each else if eqS s ln_upto then lt_upto else if eqS s ln_shows then lt_shows else ⟨#[]⟩
/-- A text's tree, if all that is asked of it holds. -/
def treeL (l : List UInt8) : Option ExT :=
  (lexL 200 0 l []).bind fun L => if 4000 < L.length ∨ eqS (sgn (tokAt L l.length 0)) qType = true then none else ((pfsG L l.length 200).expr 0 0 []).bind fun o =>
    if o.i = L.length ∧ szE o.t ≤ 600 ∧ progOk ⟨[], layE 0 o.t⟩ = true ∧ okE o.t = true ∧ ((layE 0 o.t).all fun y => decide (y.pats.length ≤ 600) && y.pats.all fun q => decide (q.nodes.length ≤ 600) && q.nodes.all fun z => decide (z.kids.length ≤ 600)) = true then some o.t else none

set_option maxRecDepth 100000
theorem lp_id : (treeL lt_id.data.toList).isSome = true := by kernel_rfl
theorem lp_both : (treeL lt_both.data.toList).isSome = true := by kernel_rfl
theorem lp_not : (treeL lt_not.data.toList).isSome = true := by kernel_rfl
theorem lp_abs : (treeL lt_abs.data.toList).isSome = true := by kernel_rfl
theorem lp_len : (treeL lt_len.data.toList).isSome = true := by kernel_rfl
theorem lp_app : (treeL lt_app.data.toList).isSome = true := by kernel_rfl
theorem lp_rev : (treeL lt_rev.data.toList).isSome = true := by kernel_rfl
theorem lp_map : (treeL lt_map.data.toList).isSome = true := by kernel_rfl
theorem lp_fold : (treeL lt_fold.data.toList).isSome = true := by kernel_rfl
theorem lp_sum : (treeL lt_sum.data.toList).isSome = true := by kernel_rfl
theorem lp_each : (treeL lt_each.data.toList).isSome = true := by kernel_rfl
theorem lp_upto : (treeL lt_upto.data.toList).isSome = true := by kernel_rfl
theorem lp_shows : (treeL lt_shows.data.toList).isSome = true := by kernel_rfl
theorem libFun_some {s : ByteArray} (h : libFunP s ≠ ⟨#[]⟩) : ∃ x, treeL (libFunP s).data.toList = some x := by
  unfold libFunP at h ⊢
  by_cases e_id : eqS s ln_id = true
  · rw [if_pos e_id]; exact Option.isSome_iff_exists.1 lp_id
  rw [if_neg e_id] at h ⊢
  by_cases e_both : eqS s ln_both = true
  · rw [if_pos e_both]; exact Option.isSome_iff_exists.1 lp_both
  rw [if_neg e_both] at h ⊢
  by_cases e_not : eqS s ln_not = true
  · rw [if_pos e_not]; exact Option.isSome_iff_exists.1 lp_not
  rw [if_neg e_not] at h ⊢
  by_cases e_abs : eqS s ln_abs = true
  · rw [if_pos e_abs]; exact Option.isSome_iff_exists.1 lp_abs
  rw [if_neg e_abs] at h ⊢
  by_cases e_len : eqS s ln_len = true
  · rw [if_pos e_len]; exact Option.isSome_iff_exists.1 lp_len
  rw [if_neg e_len] at h ⊢
  by_cases e_app : eqS s ln_app = true
  · rw [if_pos e_app]; exact Option.isSome_iff_exists.1 lp_app
  rw [if_neg e_app] at h ⊢
  by_cases e_rev : eqS s ln_rev = true
  · rw [if_pos e_rev]; exact Option.isSome_iff_exists.1 lp_rev
  rw [if_neg e_rev] at h ⊢
  by_cases e_map : eqS s ln_map = true
  · rw [if_pos e_map]; exact Option.isSome_iff_exists.1 lp_map
  rw [if_neg e_map] at h ⊢
  by_cases e_fold : eqS s ln_fold = true
  · rw [if_pos e_fold]; exact Option.isSome_iff_exists.1 lp_fold
  rw [if_neg e_fold] at h ⊢
  by_cases e_sum : eqS s ln_sum = true
  · rw [if_pos e_sum]; exact Option.isSome_iff_exists.1 lp_sum
  rw [if_neg e_sum] at h ⊢
  by_cases e_each : eqS s ln_each = true
  · rw [if_pos e_each]; exact Option.isSome_iff_exists.1 lp_each
  rw [if_neg e_each] at h ⊢
  by_cases e_upto : eqS s ln_upto = true
  · rw [if_pos e_upto]; exact Option.isSome_iff_exists.1 lp_upto
  rw [if_neg e_upto] at h ⊢
  by_cases e_shows : eqS s ln_shows = true
  · rw [if_pos e_shows]; exact Option.isSome_iff_exists.1 lp_shows
  rw [if_neg e_shows] at h ⊢
  exact absurd rfl h
theorem libFun_len (s : ByteArray) : (libFunP s).size ≤ 200 := by
  unfold libFunP
  by_cases e_id : eqS s ln_id = true
  · rw [if_pos e_id]; decide
  rw [if_neg e_id]
  by_cases e_both : eqS s ln_both = true
  · rw [if_pos e_both]; decide
  rw [if_neg e_both]
  by_cases e_not : eqS s ln_not = true
  · rw [if_pos e_not]; decide
  rw [if_neg e_not]
  by_cases e_abs : eqS s ln_abs = true
  · rw [if_pos e_abs]; decide
  rw [if_neg e_abs]
  by_cases e_len : eqS s ln_len = true
  · rw [if_pos e_len]; decide
  rw [if_neg e_len]
  by_cases e_app : eqS s ln_app = true
  · rw [if_pos e_app]; decide
  rw [if_neg e_app]
  by_cases e_rev : eqS s ln_rev = true
  · rw [if_pos e_rev]; decide
  rw [if_neg e_rev]
  by_cases e_map : eqS s ln_map = true
  · rw [if_pos e_map]; decide
  rw [if_neg e_map]
  by_cases e_fold : eqS s ln_fold = true
  · rw [if_pos e_fold]; decide
  rw [if_neg e_fold]
  by_cases e_sum : eqS s ln_sum = true
  · rw [if_pos e_sum]; decide
  rw [if_neg e_sum]
  by_cases e_each : eqS s ln_each = true
  · rw [if_pos e_each]; decide
  rw [if_neg e_each]
  by_cases e_upto : eqS s ln_upto = true
  · rw [if_pos e_upto]; decide
  rw [if_neg e_upto]
  by_cases e_shows : eqS s ln_shows = true
  · rw [if_pos e_shows]; decide
  rw [if_neg e_shows]
  decide

set_option maxRecDepth 100000 in
set_option maxHeartbeats 8000000 in
theorem libFun_c (s : ByteArray) (w : World) : Calls Tryz.prog 19 #[.string s] w fun e w' => e = .returned (.string (libFunP s)) ∧ Below w.heap.size w w' := by
  have hF : libFunP s = if eqS s ln_id then lt_id else if eqS s ln_both then lt_both else if eqS s ln_not then lt_not else if eqS s ln_abs then lt_abs else if eqS s ln_len then lt_len else if eqS s ln_app then lt_app else if eqS s ln_rev then lt_rev else if eqS s ln_map then lt_map else if eqS s ln_fold then lt_fold else if eqS s ln_sum then lt_sum else if eqS s ln_each then lt_each else if eqS s ln_upto then lt_upto else if eqS s ln_shows then lt_shows else ⟨#[]⟩ := rfl
  generalize libFunP s = res at *
  have c0 : (s.toList == [105, 100]) = eqS s ln_id := eqS_lit ln_id rfl
  generalize eqS s ln_id = a0 at *
  have c1 : (s.toList == [98, 111, 116, 104]) = eqS s ln_both := eqS_lit ln_both rfl
  generalize eqS s ln_both = a1 at *
  have c2 : (s.toList == [110, 111, 116]) = eqS s ln_not := eqS_lit ln_not rfl
  generalize eqS s ln_not = a2 at *
  have c3 : (s.toList == [97, 98, 115]) = eqS s ln_abs := eqS_lit ln_abs rfl
  generalize eqS s ln_abs = a3 at *
  have c4 : (s.toList == [108, 101, 110]) = eqS s ln_len := eqS_lit ln_len rfl
  generalize eqS s ln_len = a4 at *
  have c5 : (s.toList == [97, 112, 112]) = eqS s ln_app := eqS_lit ln_app rfl
  generalize eqS s ln_app = a5 at *
  have c6 : (s.toList == [114, 101, 118]) = eqS s ln_rev := eqS_lit ln_rev rfl
  generalize eqS s ln_rev = a6 at *
  have c7 : (s.toList == [109, 97, 112]) = eqS s ln_map := eqS_lit ln_map rfl
  generalize eqS s ln_map = a7 at *
  have c8 : (s.toList == [102, 111, 108, 100]) = eqS s ln_fold := eqS_lit ln_fold rfl
  generalize eqS s ln_fold = a8 at *
  have c9 : (s.toList == [115, 117, 109]) = eqS s ln_sum := eqS_lit ln_sum rfl
  generalize eqS s ln_sum = a9 at *
  have c10 : (s.toList == [101, 97, 99, 104]) = eqS s ln_each := eqS_lit ln_each rfl
  generalize eqS s ln_each = a10 at *
  have c11 : (s.toList == [117, 112, 116, 111]) = eqS s ln_upto := eqS_lit ln_upto rfl
  generalize eqS s ln_upto = a11 at *
  have c12 : (s.toList == [115, 104, 111, 119, 115]) = eqS s ln_shows := eqS_lit ln_shows rfl
  generalize eqS s ln_shows = a12 at *
  cases a0
  rotate_left
  · rw [if_pos rfl] at hF
    subst hF
    go_enter Tryz.func19, Tryz.ntmps19
    go_wp2_with fail
    go_returns
    exact ⟨rfl, by go_grown⟩
  rw [if_neg (by simp)] at hF
  cases a1
  rotate_left
  · rw [if_pos rfl] at hF
    subst hF
    go_enter Tryz.func19, Tryz.ntmps19
    go_wp2_with fail
    go_returns
    exact ⟨rfl, by go_grown⟩
  rw [if_neg (by simp)] at hF
  cases a2
  rotate_left
  · rw [if_pos rfl] at hF
    subst hF
    go_enter Tryz.func19, Tryz.ntmps19
    go_wp2_with fail
    go_returns
    exact ⟨rfl, by go_grown⟩
  rw [if_neg (by simp)] at hF
  cases a3
  rotate_left
  · rw [if_pos rfl] at hF
    subst hF
    go_enter Tryz.func19, Tryz.ntmps19
    go_wp2_with fail
    go_returns
    exact ⟨rfl, by go_grown⟩
  rw [if_neg (by simp)] at hF
  cases a4
  rotate_left
  · rw [if_pos rfl] at hF
    subst hF
    go_enter Tryz.func19, Tryz.ntmps19
    go_wp2_with fail
    go_returns
    exact ⟨rfl, by go_grown⟩
  rw [if_neg (by simp)] at hF
  cases a5
  rotate_left
  · rw [if_pos rfl] at hF
    subst hF
    go_enter Tryz.func19, Tryz.ntmps19
    go_wp2_with fail
    go_returns
    exact ⟨rfl, by go_grown⟩
  rw [if_neg (by simp)] at hF
  cases a6
  rotate_left
  · rw [if_pos rfl] at hF
    subst hF
    go_enter Tryz.func19, Tryz.ntmps19
    go_wp2_with fail
    go_returns
    exact ⟨rfl, by go_grown⟩
  rw [if_neg (by simp)] at hF
  cases a7
  rotate_left
  · rw [if_pos rfl] at hF
    subst hF
    go_enter Tryz.func19, Tryz.ntmps19
    go_wp2_with fail
    go_returns
    exact ⟨rfl, by go_grown⟩
  rw [if_neg (by simp)] at hF
  cases a8
  rotate_left
  · rw [if_pos rfl] at hF
    subst hF
    go_enter Tryz.func19, Tryz.ntmps19
    go_wp2_with fail
    go_returns
    exact ⟨rfl, by go_grown⟩
  rw [if_neg (by simp)] at hF
  cases a9
  rotate_left
  · rw [if_pos rfl] at hF
    subst hF
    go_enter Tryz.func19, Tryz.ntmps19
    go_wp2_with fail
    go_returns
    exact ⟨rfl, by go_grown⟩
  rw [if_neg (by simp)] at hF
  cases a10
  rotate_left
  · rw [if_pos rfl] at hF
    subst hF
    go_enter Tryz.func19, Tryz.ntmps19
    go_wp2_with fail
    go_returns
    exact ⟨rfl, by go_grown⟩
  rw [if_neg (by simp)] at hF
  cases a11
  rotate_left
  · rw [if_pos rfl] at hF
    subst hF
    go_enter Tryz.func19, Tryz.ntmps19
    go_wp2_with fail
    go_returns
    exact ⟨rfl, by go_grown⟩
  rw [if_neg (by simp)] at hF
  cases a12
  rotate_left
  · rw [if_pos rfl] at hF
    subst hF
    go_enter Tryz.func19, Tryz.ntmps19
    go_wp2_with fail
    go_returns
    exact ⟨rfl, by go_grown⟩
  rw [if_neg (by simp)] at hF
  subst hF
  go_enter Tryz.func19, Tryz.ntmps19
  go_wp2_with fail
  go_returns
  exact ⟨rfl, by go_grown⟩
end Go.Proofs.YtcjoheplilaccaaGreat

/- Marks: markStringS, heldStringS. -/
namespace Go.Proofs.YtcjoheplilaccaaGreat
open Go.RowKit
set_option linter.unusedVariables false
set_option linter.unusedSimpArgs false
attribute [local go_sem] Ext.cell

set_option maxHeartbeats 1000000 in
theorem markStringS_c (b off n cap k lo : Nat) (hlo : lo ≤ b) (hkn : k + n ≤ 4611686018427387904) (w : World) (hb0 : b < w.heap.size) (hA : Wr w b off n) :
    Calls Tryz.prog 10 #[.slice (some ⟨b, off, none⟩) n cap, .int .i64 k] w fun e w' => e = .returned (.int .i64 (k + n : Nat)) ∧ Mk w' b off n (fun j => .string (markT (k + j))) ∧ Below lo w w' ∧ Kept (· = b) w w' := by
  go_enter Tryz.func10, Tryz.ntmps10
  go_wp2_with fail
  go_loopw [1, 5] (fun kk i wr => ∃ m j : Nat, j ≤ n ∧ m = k + j ∧ kk = .int .i64 m ∧ i = .int .i64 j ∧ Wr wr b off n ∧ Mk wr b off j (fun j => .string (markT (k + j))) ∧ Below lo w wr ∧ Kept (· = b) w wr) (fun _ i _ => n - (intOf i).toNat)
  case atStart => exact ⟨k, 0, by omega, by omega, rfl, rfl, hA, fun j hj => absurd hj (by omega), Below.refl _ _, Kept.refl _ _⟩
  case round =>
    obtain ⟨m, j, hj, hm, rfl, rfl, hA1, hM, hw, hK⟩ := hrel
    replace hm := Lib.hid hm
    have hz := hw.size
    clear hA
    by_cases hlt : j < n
    · have hm1 : m ≤ 4611686018427387904 := by have := hm.out; omega
      go_wp2_with (go_at_call 24; refine (markText_c m hm1 _).mono ?_; rintro e w2 ⟨rfl, hb2⟩; have hA2 := hA1.below hb2; have hM2 := hM.below hb2; have hK2 := hK.trans hz (Kept.below hb2); have hw2 := hw.trans (hb2.mono (by omega)); have hz2 := hb2.size; clear hA1 hM hb2; obtain ⟨c0, e0, f0⟩ := hA2 j hlt)
      go_roundw
      case rel => exact ⟨m + 1, j + 1, by omega, by rw [hm.out]; omega, by go_num, by go_num, hA2.set _ _, hM2.step hA2 hlt (by rw [hm.out]), hw2.setCell (by dsimp only; omega) _, hK2.set rfl _⟩
      case measure => simp [intOf]; omega
    · obtain rfl : j = n := by omega
      go_wp2
      go_returns
      exact ⟨by rw [hm.out]; rfl, hM, hw, hK⟩

set_option maxHeartbeats 1000000 in
theorem heldStringS_c (b off n cap k : Nat) (hkn : k + n ≤ 4611686018427387904) (w : World) (hM : Mk w b off n (fun j => .string (markT (k + j)))) :
    Calls Tryz.prog 11 #[.slice (some ⟨b, off, none⟩) n cap, .int .i64 k] w fun e w' => e = .returned (.int .i64 (k + n : Nat)) ∧ Below w.heap.size w w' := by
  go_enter Tryz.func11, Tryz.ntmps11
  go_wp2_with fail
  go_loopw [1, 5] (fun kk i wr => ∃ m j : Nat, j ≤ n ∧ m = k + j ∧ kk = .int .i64 m ∧ i = .int .i64 j ∧ Below w.heap.size w wr) (fun _ i _ => n - (intOf i).toNat)
  case atStart => exact ⟨k, 0, by omega, by omega, rfl, rfl, Below.refl _ _⟩
  case round =>
    obtain ⟨m, j, hj, hm, rfl, rfl, hw⟩ := hrel
    replace hm := Lib.hid hm
    have hz := hw.size
    by_cases hlt : j < n
    · have hm1 : m ≤ 4611686018427387904 := by have := hm.out; omega
      have R1 : ∀ z : Ext wr, z.val.cell? ⟨b, off + j, none⟩ = some (.string (markT m)) := fun z => by have h := (hM.below hw).below z.property j hlt; rw [hm.out]; exact h
      generalize hs : markT m = s at *
      replace hs := Lib.hid hs
      have c1 := fun W => markText_c m hm1 W
      rw [hs.out] at c1
      go_wp2_with fail
      refine wp_region_ext_lit (by kernel_rfl) (by kernel_rfl) ?_
      repeat (go_big_quiet_step ((go_at_call 24; exact Calls.ext (c1 _))))
      refine wpQuiet_nil ?_
      rintro _ ⟨⟨w2, hw2⟩, rfl⟩
      clear R1
      have hw3 := hw.trans (hw2.mono hw.size)
      go_wp2
      go_roundw
      case rel => exact ⟨m + 1, j + 1, by omega, by rw [hm.out]; omega, by go_num, by go_num, hw3⟩
      case measure => simp [intOf]; omega
    · obtain rfl : j = n := by omega
      go_wp2
      go_returns
      exact ⟨by rw [hm.out]; rfl, hw⟩

end Go.Proofs.YtcjoheplilaccaaGreat

/- LibNames: both give the thirteen names. Printed by gen_lib.py. -/
namespace Go.Proofs.YtcjoheplilaccaaGreat
open Go.RowKit
set_option linter.unusedVariables false
set_option linter.unusedSimpArgs false
attribute [local go_sem] Ext.cell

def libNames : List ByteArray := [⟨#[105, 100]⟩, ⟨#[98, 111, 116, 104]⟩, ⟨#[110, 111, 116]⟩, ⟨#[97, 98, 115]⟩, ⟨#[108, 101, 110]⟩, ⟨#[97, 112, 112]⟩, ⟨#[114, 101, 118]⟩, ⟨#[109, 97, 112]⟩, ⟨#[102, 111, 108, 100]⟩, ⟨#[115, 117, 109]⟩, ⟨#[101, 97, 99, 104]⟩, ⟨#[117, 112, 116, 111]⟩, ⟨#[115, 104, 111, 119, 115]⟩]
theorem libNames_ok : ∀ x ∈ libNames, StrOk x := by
  intro x hx
  simp only [libNames, List.mem_cons, List.not_mem_nil, or_false] at hx
  rcases hx with rfl | rfl | rfl | rfl | rfl | rfl | rfl | rfl | rfl | rfl | rfl | rfl | rfl <;> (show (Array.size _) ≤ _; decide)

theorem info_StrLn : (Tryz.prog.info? 9).map (fun i => (i.zero, i.size, i.bytes)) = some (some (.string ⟨#[]⟩), 1, 16) := by kernel_rfl

set_option maxHeartbeats 1000000 in
theorem impl_LibNames_c (w : World) :
    Calls Tryz.prog 22 #[] w fun e w' => ∃ v, e = .returned v ∧ w'.ownsRow w.heap.size 9 1 v 13 (libNames.map Value.string) ∧ Below w.heap.size w w' := by
  go_enter Tryz.func22, Tryz.ntmps22
  go_wp2
  go_returns
  exact ⟨_, rfl, own_new w _ _ 1 13 rfl (by decide) _ (Nat.le_refl _), by go_grown⟩

def DefRow (w : World) (b i : Nat) (x : ByteArray) : Prop := ∃ s0 s1 a n c d, RowAt w b (i * 5) [.string x, .string s0, .string s1, .slice a n c, .bool d]
theorem rowAt_part {w : World} {b : Nat} {xs r : List Value} (h : RowAt w b 0 xs) (i : Nat) (hr : (xs.drop i).take 5 = r) : RowAt w b i r := fun j c hc => by
  rw [← hr, List.getElem?_take] at hc
  split at hc
  · rw [List.getElem?_drop] at hc
    have := h (i + j) c hc
    simpa using this
  · cases hc

theorem defs_of (w4 : World) (cs : Array Value) (e : TypeId) (hsz : cs.size = 13 * 5) (hrow : ∀ i x, libNames[i]? = some x → ∃ s0 s1 a n c d, (cs.toList.drop (i * 5)).take 5 = [.string x, .string s0, .string s1, .slice a n c, .bool d]) : ∀ i x, libNames[i]? = some x → DefRow (w4.alloc (.cells cs e)) w4.heap.size i x := fun i x hx => by
  obtain ⟨g, cap, hv, h1, h2, h3, h4, h5, h6⟩ := own_cells (own_new w4 cs e 5 13 hsz (by decide) 0 (Nat.zero_le _)) (by decide)
  obtain rfl : w4.heap.size = g := by injection hv with a; injection a with a; injection a
  obtain ⟨s0, s1, a, n, c, d, hr⟩ := hrow i x hx
  exact ⟨s0, s1, a, n, c, d, rowAt_part h5 (i * 5) hr⟩

set_option maxRecDepth 100000 in
set_option maxHeartbeats 1000000 in
theorem l22Defs_c (w : World) :
    Calls Tryz.prog 14 #[] w fun e w' => ∃ b, e = .returned (.slice (some ⟨b, 0, none⟩) 13 13) ∧ w.heap.size ≤ b ∧ b < w'.heap.size ∧ (∀ i x, libNames[i]? = some x → DefRow w' b i x) ∧ Below w.heap.size w w' := by
  go_enter Tryz.func14, Tryz.ntmps14
  go_wp2
  go_returns
  generalize hw : (((w.alloc _).alloc _).alloc _).alloc _ = w4
  have hb4 : Below w.heap.size w w4 := by rw [← hw]; go_grown
  have hz4 := hb4.size
  refine ⟨w4.heap.size, ?_, hz4, by simp, defs_of w4 _ _ rfl (fun i x hx => ?_), hb4.trans (by go_grown)⟩
  · rw [← hw]; simp only [World.size_alloc]; rfl
  · have hi : i < 13 := (List.getElem?_eq_some_iff.1 hx).1
    match i, hi, hx with
    | 0, _, hx => obtain rfl := Option.some.inj hx; exact ⟨_, _, _, _, _, _, rfl⟩
    | 1, _, hx => obtain rfl := Option.some.inj hx; exact ⟨_, _, _, _, _, _, rfl⟩
    | 2, _, hx => obtain rfl := Option.some.inj hx; exact ⟨_, _, _, _, _, _, rfl⟩
    | 3, _, hx => obtain rfl := Option.some.inj hx; exact ⟨_, _, _, _, _, _, rfl⟩
    | 4, _, hx => obtain rfl := Option.some.inj hx; exact ⟨_, _, _, _, _, _, rfl⟩
    | 5, _, hx => obtain rfl := Option.some.inj hx; exact ⟨_, _, _, _, _, _, rfl⟩
    | 6, _, hx => obtain rfl := Option.some.inj hx; exact ⟨_, _, _, _, _, _, rfl⟩
    | 7, _, hx => obtain rfl := Option.some.inj hx; exact ⟨_, _, _, _, _, _, rfl⟩
    | 8, _, hx => obtain rfl := Option.some.inj hx; exact ⟨_, _, _, _, _, _, rfl⟩
    | 9, _, hx => obtain rfl := Option.some.inj hx; exact ⟨_, _, _, _, _, _, rfl⟩
    | 10, _, hx => obtain rfl := Option.some.inj hx; exact ⟨_, _, _, _, _, _, rfl⟩
    | 11, _, hx => obtain rfl := Option.some.inj hx; exact ⟨_, _, _, _, _, _, rfl⟩
    | 12, _, hx => obtain rfl := Option.some.inj hx; exact ⟨_, _, _, _, _, _, rfl⟩

end Go.Proofs.YtcjoheplilaccaaGreat
