/- Parts of the proof, merged: FindPat, FindIns, CodeOk. -/
import Derived.Test.YtklfepnokidnaaaSc31
/- slices.ContainsFunc over []impl.Pat, with a closure that answers for each element and may make memory. -/
namespace Go.Proofs.Ytklfepnokidnaaa
open Go.RowKit
set_option linter.unusedVariables false
set_option linter.unusedSimpArgs false
attribute [local go_sem] Ext.cell

set_option maxRecDepth 100000 in
set_option maxHeartbeats 4000000 in
theorem indexFuncPat_c (xs : List GPat) (p : GPat → Bool) (g : Nat) (lb : Array Value) (lo : Nat) (u : Value) (w : World) (hu : Sl GPat.R 1 lo w u xs)
    (hp : ∀ (i : Nat) x r W, xs[i]? = some x → Below w.heap.size w W → GPat.R lo W r x → Calls Try.prog g (#[.agg r.toArray] ++ lb) W fun e w' => e = .returned (.bool (p x)) ∧ Below W.heap.size W w') (eg : ∀ args w, (callFunc g args).run Try.prog w = .ok (.enter g args) w) :
    Calls Try.prog 60 #[u, .func (.func g) #[] lb] w (IdxPost p xs w) := by
  obtain ⟨ua, uc, rfl, ul, um, h0⟩ := hu
  replace hp := Lib.hid hp
  replace h0 := Lib.hid h0
  obtain ⟨m, hm⟩ : ∃ m, m = xs.length := ⟨_, rfl⟩
  rw [← hm] at ul ⊢
  replace hm := Lib.hid hm
  go_enter Try.func60, Try.ntmps60
  go_wp2_with fail
  go_loopw [8] (fun i wr => ∃ k : Nat, k ≤ m ∧ i = .int .i64 k ∧ Below w.heap.size w wr ∧ Hid (∀ y ∈ xs.take k, p y = false)) (fun i _ => m - (intOf i).toNat)
  case atStart => exact ⟨0, by omega, rfl, Below.refl _ _, fun y hy => by simp at hy⟩
  case round =>
    obtain ⟨k, hk, rfl, hw, hF⟩ := hrel
    by_cases hlt : k < m
    · obtain ⟨b1, o1, x, r, _, rfl, P1, hx, r1⟩ := (h0.out.below GPat.good hw).get hm hlt
      have hc := hp.out k x r wr P1.out hw hx
      obtain ⟨u0, rfl, hxf⟩ := id hx
      have e_0 : wr.cell? ⟨b1, o1 + k, none⟩ = some u0 := by simpa using r1 0 _ rfl
      clear r1 hx hxf
      replace P1 := P1
      generalize hq : p x = q at hc
      replace hq := Lib.hid hq
      cases q with
      | true =>
        go_wp2_with (go_at_fn g; refine hc.mono ?_; rintro e w1 ⟨rfl, hb⟩)
        go_returns
        exact ⟨k, rfl, by
          have : xs.any p = true := List.any_eq_true.2 ⟨x, List.mem_of_getElem? P1.out, hq.out⟩
          rw [this]; simp, hw.trans (hb.mono hw.size)⟩
      | false =>
        go_wp2_with (go_at_fn g; refine hc.mono ?_; rintro e w1 ⟨rfl, hb⟩)
        go_roundw
        case rel => exact ⟨k + 1, by omega, by go_num, hw.trans (hb.mono hw.size), by
          show ∀ y ∈ xs.take (k + 1), p y = false
          rw [take_snoc' P1.out]
          intro y hy
          rcases List.mem_append.1 hy with h | h
          · exact hF.out y h
          · simp at h; subst h; exact hq.out⟩
        case measure => simp [intOf]; omega
    · obtain rfl : k = m := by omega
      go_wp2_with fail
      go_returns
      exact ⟨-1, rfl, by
        have hF := hF.out
        rw [take_full hm] at hF
        have : xs.any p = false := List.any_eq_false.2 fun y hy => by rw [hF y hy]; simp
        rw [this]; simp, hw⟩

theorem containsFuncPat_c (xs : List GPat) (p : GPat → Bool) (g : Nat) (lb : Array Value) (lo : Nat) (u : Value) (w : World) (hu : Sl GPat.R 1 lo w u xs)
    (hp : ∀ (i : Nat) x r W, xs[i]? = some x → Below w.heap.size w W → GPat.R lo W r x → Calls Try.prog g (#[.agg r.toArray] ++ lb) W fun e w' => e = .returned (.bool (p x)) ∧ Below W.heap.size W w') (eg : ∀ args w, (callFunc g args).run Try.prog w = .ok (.enter g args) w) :
    Calls Try.prog 34 #[u, .func (.func g) #[] lb] w fun e w' => e = .returned (.bool (xs.any p)) ∧ Below w.heap.size w w' := by
  have hc := indexFuncPat_c xs p g lb lo u w hu hp eg
  replace hc : Calls Try.prog 60 #[u, .func (.func g) #[] lb] w fun e w' => ∃ n : Int, e = .returned (.int .i64 n) ∧ decide (0 ≤ n) = xs.any p ∧ Below w.heap.size w w' := hc
  clear hp
  generalize xs.any p = q at *
  obtain ⟨ua, uc, rfl⟩ := hu.form
  clear hu
  go_enter Try.func34, Try.ntmps34
  go_wp2_with (go_at_call 60; refine hc.mono ?_; rintro e w1 ⟨n, rfl, hn, hb⟩)
  go_returns
  exact ⟨rfl, hb⟩

end Go.Proofs.Ytklfepnokidnaaa

/- slices.ContainsFunc over []impl.Ins, with a closure that answers for each element and may make memory. -/
namespace Go.Proofs.Ytklfepnokidnaaa
open Go.RowKit
set_option linter.unusedVariables false
set_option linter.unusedSimpArgs false
attribute [local go_sem] Ext.cell

set_option maxRecDepth 100000 in
set_option maxHeartbeats 4000000 in
theorem indexFuncIns_c (xs : List GIns) (p : GIns → Bool) (g : Nat) (lb : Array Value) (lo : Nat) (u : Value) (w : World) (hu : Sl GIns.R 4 lo w u xs)
    (hp : ∀ (i : Nat) x r W, xs[i]? = some x → Below w.heap.size w W → GIns.R lo W r x → Calls Try.prog g (#[.agg r.toArray] ++ lb) W fun e w' => e = .returned (.bool (p x)) ∧ Below W.heap.size W w') (eg : ∀ args w, (callFunc g args).run Try.prog w = .ok (.enter g args) w) :
    Calls Try.prog 65 #[u, .func (.func g) #[] lb] w (IdxPost p xs w) := by
  obtain ⟨ua, uc, rfl, ul, um, h0⟩ := hu
  replace hp := Lib.hid hp
  replace h0 := Lib.hid h0
  obtain ⟨m, hm⟩ : ∃ m, m = xs.length := ⟨_, rfl⟩
  rw [← hm] at ul ⊢
  replace hm := Lib.hid hm
  go_enter Try.func65, Try.ntmps65
  go_wp2_with fail
  go_loopw [8] (fun i wr => ∃ k : Nat, k ≤ m ∧ i = .int .i64 k ∧ Below w.heap.size w wr ∧ Hid (∀ y ∈ xs.take k, p y = false)) (fun i _ => m - (intOf i).toNat)
  case atStart => exact ⟨0, by omega, rfl, Below.refl _ _, fun y hy => by simp at hy⟩
  case round =>
    obtain ⟨k, hk, rfl, hw, hF⟩ := hrel
    by_cases hlt : k < m
    · obtain ⟨b1, o1, x, r, _, rfl, P1, hx, r1⟩ := (h0.out.below GIns.good hw).get hm hlt
      have hc := hp.out k x r wr P1.out hw hx
      obtain ⟨rfl, hxf⟩ := id hx
      obtain ⟨e_0, e_1, e_2, e_3⟩ := r1.cells4
      clear r1 hx hxf
      replace P1 := P1
      generalize hq : p x = q at hc
      replace hq := Lib.hid hq
      cases q with
      | true =>
        go_wp2_with (go_at_fn g; refine hc.mono ?_; rintro e w1 ⟨rfl, hb⟩)
        go_returns
        exact ⟨k, rfl, by
          have : xs.any p = true := List.any_eq_true.2 ⟨x, List.mem_of_getElem? P1.out, hq.out⟩
          rw [this]; simp, hw.trans (hb.mono hw.size)⟩
      | false =>
        go_wp2_with (go_at_fn g; refine hc.mono ?_; rintro e w1 ⟨rfl, hb⟩)
        go_roundw
        case rel => exact ⟨k + 1, by omega, by go_num, hw.trans (hb.mono hw.size), by
          show ∀ y ∈ xs.take (k + 1), p y = false
          rw [take_snoc' P1.out]
          intro y hy
          rcases List.mem_append.1 hy with h | h
          · exact hF.out y h
          · simp at h; subst h; exact hq.out⟩
        case measure => simp [intOf]; omega
    · obtain rfl : k = m := by omega
      go_wp2_with fail
      go_returns
      exact ⟨-1, rfl, by
        have hF := hF.out
        rw [take_full hm] at hF
        have : xs.any p = false := List.any_eq_false.2 fun y hy => by rw [hF y hy]; simp
        rw [this]; simp, hw⟩

theorem containsFuncIns_c (xs : List GIns) (p : GIns → Bool) (g : Nat) (lb : Array Value) (lo : Nat) (u : Value) (w : World) (hu : Sl GIns.R 4 lo w u xs)
    (hp : ∀ (i : Nat) x r W, xs[i]? = some x → Below w.heap.size w W → GIns.R lo W r x → Calls Try.prog g (#[.agg r.toArray] ++ lb) W fun e w' => e = .returned (.bool (p x)) ∧ Below W.heap.size W w') (eg : ∀ args w, (callFunc g args).run Try.prog w = .ok (.enter g args) w) :
    Calls Try.prog 37 #[u, .func (.func g) #[] lb] w fun e w' => e = .returned (.bool (xs.any p)) ∧ Below w.heap.size w w' := by
  have hc := indexFuncIns_c xs p g lb lo u w hu hp eg
  replace hc : Calls Try.prog 65 #[u, .func (.func g) #[] lb] w fun e w' => ∃ n : Int, e = .returned (.int .i64 n) ∧ decide (0 ≤ n) = xs.any p ∧ Below w.heap.size w w' := hc
  clear hp
  generalize xs.any p = q at *
  obtain ⟨ua, uc, rfl⟩ := hu.form
  clear hu
  go_enter Try.func37, Try.ntmps37
  go_wp2_with (go_at_call 65; refine hc.mono ?_; rintro e w1 ⟨n, rfl, hn, hb⟩)
  go_returns
  exact ⟨rfl, hb⟩

end Go.Proofs.Ytklfepnokidnaaa

/- CodeOk: the program's. -/
namespace Go.Proofs.Ytklfepnokidnaaa
open Go.RowKit
set_option linter.unusedVariables false
set_option linter.unusedSimpArgs false
attribute [local go_sem] Ext.cell

def toD (x : GPNode) : GDNode := ⟨x.kind, x.n, x.s, x.kids⟩
def patD (q : GPat) : GData := ⟨q.nodes.map toD⟩
theorem Sl.map' {α β : Type} {R : Reading α} {R' : Reading β} (f : α → β) (hf : ∀ lo w r x, R lo w r x → R' lo w r (f x)) {sz lo : Nat} {w : World} {v : Value} {xs : List α} (h : Sl R sz lo w v xs) : Sl R' sz lo w v (xs.map f) := by
  obtain ⟨a, c, rfl, h1, h2, h3⟩ := h
  refine ⟨a, c, by rw [List.length_map], by rw [List.length_map]; exact h1, h2, fun h0 => ?_⟩
  obtain ⟨b, off, h4, h5, h6⟩ := h3 (by rwa [List.length_map] at h0)
  refine ⟨b, off, h4, h5, fun i y hy => ?_⟩
  rw [List.getElem?_map] at hy
  obtain ⟨x, hx, rfl⟩ := Option.map_eq_some_iff.1 hy
  obtain ⟨r, h7, h8⟩ := h6 i x hx
  exact ⟨r, hf _ _ _ _ h7, h8⟩
theorem GPat.toData {lo : Nat} {w : World} {r : List Value} {q : GPat} (h : GPat.R lo w r q) : GData.R lo w r (patD q) := by
  obtain ⟨u0, hr, _, h0⟩ := h
  exact ⟨u0, hr, trivial, h0.map' toD fun lo w r x hx => hx⟩
def CodeSmall (c : GCode) : Prop := c.ins.length ≤ 1152921504606846976 ∧ c.pats.length ≤ 1152921504606846976 ∧ ∀ q ∈ c.pats, q.nodes.length ≤ 1152921504606846976
theorem CodeSmall.bulk {c : GCode} (h : GCode.bulk c ≤ 1048576) : CodeSmall c := by
  unfold GCode.bulk at h
  have h1 := bulkS_nonneg GIns.bulk_nonneg c.ins
  have h2 := bulkS_nonneg GPat.bulk_nonneg c.pats
  have h3 := length_le_bulkS (f := GIns.bulk) GIns.bulk_nonneg c.ins
  have h4 := length_le_bulkS (f := GPat.bulk) GPat.bulk_nonneg c.pats
  refine ⟨by omega, by omega, fun q hq => ?_⟩
  obtain ⟨i, hi, rfl⟩ := List.getElem_of_mem hq
  have h5 := le_bulkS (f := GPat.bulk) GPat.bulk_nonneg (List.getElem?_eq_getElem hi)
  have h6 : GPat.bulk c.pats[i] = bulkS GPNode.bulk c.pats[i].nodes := rfl
  have h7 := length_le_bulkS (f := GPNode.bulk) GPNode.bulk_nonneg c.pats[i].nodes
  omega
def codeOk (c : GCode) : Bool := decide (1 ≤ (c.ins.length : Int) ∧ (c.ins.length : Int) ≤ 3000) && (!(c.pats.any fun q => !patOk (patD q)) && !(c.ins.any fun i => !insOkP c.ins.length c.pats.length i))

set_option maxRecDepth 100000 in
set_option maxHeartbeats 4000000 in
theorem badPat_c (q : GPat) (hq : q.nodes.length ≤ 1152921504606846976) (r : List Value) (lo : Nat) (w : World) (hr : GPat.R lo w r q) :
    Calls Try.prog 35 (#[.agg r.toArray] ++ #[]) w fun e w' => e = .returned (.bool (!patOk (patD q))) ∧ Below w.heap.size w w' := by
  have hR := GPat.toData hr
  obtain ⟨u0, rfl, _, h0⟩ := hr
  obtain ⟨a, c, rfl⟩ := h0.form
  have c1 := fun W (hW : Below w.heap.size w W) => PatOk_c (patD q) (by unfold patD; simp only [List.length_map]; exact hq) _ lo W (GData.good.below hR hW)
  clear h0 hR hq
  generalize patOk (patD q) = k at *
  generalize q.nodes.length = n at *
  replace c1 := Lib.hid c1
  show Calls Try.prog 35 #[.agg #[.slice a n c]] w _
  go_enter Try.func35, Try.ntmps35
  go_upto_region 1 with fail
  have C : RowAt (w.alloc (.cells #[.slice a n c] 41)) (w.heap.size) 0 [.slice a n c] := RowAt.box w #[.slice a n c] 41
  have hw : Below w.heap.size w (w.alloc (.cells #[.slice a n c] 41)) := by go_grown
  generalize (w.alloc (.cells #[.slice a n c] 41)) = w0 at *
  have c_0 := C.box1; have hsC := World.block_lt_of_cell? _ _ c_0; dsimp only at hsC
  go_wp2_with (go_at_call 36; ((with_reducible refine (c1.out _ hw).mono ?_); rintro e w1 ⟨rfl, hb⟩; have hw := hw.trans (hb.mono hw.size); have C := C.below hb; have c_0 := C.box1; have hsC := World.block_lt_of_cell? _ _ c_0; dsimp only at hsC; clear hb))
  go_returns
  exact ⟨rfl, hw⟩

set_option maxRecDepth 100000 in
set_option maxHeartbeats 4000000 in
theorem badIns_c (x : GIns) (ia pa : Option Addr) (n m ic pc : Nat) (hn : n ≤ 1152921504606846976) (hm : m ≤ 1152921504606846976) (r : List Value) (lo b : Nat) (w : World) (hr : GIns.R lo w r x) (e0 : w.cell? ⟨b, 0, none⟩ = some (.slice ia n ic)) (e1 : w.cell? ⟨b, 1, none⟩ = some (.slice pa m pc)) :
    Calls Try.prog 38 (#[.agg r.toArray] ++ #[.pointer (some ⟨b, 0, none⟩)]) w fun e w' => e = .returned (.bool (!insOkP n m x)) ∧ Below w.heap.size w w' := by
  obtain ⟨op, a, bb, s⟩ := x
  obtain ⟨rfl, ho, ha, hb, hs⟩ := hr
  have c1 := fun W => insOk_flat op a bb s hs ha hb ho ia pa n m ic pc hn hm W
  generalize insOkP n m ⟨op, a, bb, s⟩ = k at *
  have hbW := World.block_lt_of_cell? _ _ e0
  dsimp only at *
  show Calls Try.prog 38 #[.agg #[.int .i64 op, .int .i64 a, .int .i64 bb, .string s], .pointer (some ⟨b, 0, none⟩)] w _
  go_enter Try.func38, Try.ntmps38
  go_upto_region 1 with fail
  have I : RowAt (w.alloc (.cells #[.int .i64 op, .int .i64 a, .int .i64 bb, .string s] 56)) (w.heap.size) 0 [.int .i64 op, .int .i64 a, .int .i64 bb, .string s] := RowAt.box w #[.int .i64 op, .int .i64 a, .int .i64 bb, .string s] 56
  have hw : Below w.heap.size w (w.alloc (.cells #[.int .i64 op, .int .i64 a, .int .i64 bb, .string s] 56)) := by go_grown
  generalize (w.alloc (.cells #[.int .i64 op, .int .i64 a, .int .i64 bb, .string s] 56)) = w0 at *
  have e0' := cell_below hw e0
  have e1' := cell_below hw e1
  have hbW' := World.block_lt_of_cell? _ _ e0'
  dsimp only at hbW'
  obtain ⟨i_0, i_1, i_2, i_3⟩ := I.box4; have hsI := World.block_lt_of_cell? _ _ i_0; dsimp only at hsI
  go_wp2_with (go_at_call 39; ((with_reducible refine (c1 _).mono ?_); rintro e w1 ⟨rfl, hb⟩; have hw := hw.trans (hb.mono hw.size); have I := I.below hb; obtain ⟨i_0, i_1, i_2, i_3⟩ := I.box4; have hsI := World.block_lt_of_cell? _ _ i_0; dsimp only at hsI; clear hb))
  go_returns
  exact ⟨rfl, hw⟩

set_option maxRecDepth 100000 in
set_option maxHeartbeats 4000000 in
theorem CodeOk_c (c : GCode) (hS : CodeSmall c) (r : List Value) (lo : Nat) (w : World) (hr : GCode.R lo w r c) :
    Calls Try.prog 16 #[.agg r.toArray] w fun e w' => e = .returned (.bool (codeOk c)) ∧ Below w.heap.size w w' := by
  obtain ⟨u0, u1, rfl, _, h0, h1⟩ := hr
  obtain ⟨ia, ic, rfl⟩ := h0.form
  obtain ⟨pa, pc, rfl⟩ := h1.form
  obtain ⟨hn, hm, hq⟩ := hS
  have H1 := fun W (hW : Below w.heap.size w W) => containsFuncPat_c c.pats (fun q => !patOk (patD q)) 35 #[] lo (.slice pa c.pats.length pc) W (h1.below GPat.good hW)
    (fun i x r W' hi hW' hx => badPat_c x (hq x (List.mem_of_getElem? hi)) r lo W' hx) (fun _ _ => by kernel_rfl)
  have H2 := fun W (hW : Below w.heap.size w W) (e0 : W.cell? ⟨w.heap.size, 0, none⟩ = some (.slice ia c.ins.length ic)) (e1 : W.cell? ⟨w.heap.size, 1, none⟩ = some (.slice pa c.pats.length pc)) =>
    containsFuncIns_c c.ins (fun i => !insOkP c.ins.length c.pats.length i) 38 #[.pointer (some ⟨w.heap.size, 0, none⟩)] lo (.slice ia c.ins.length ic) W (h0.below GIns.good hW)
      (fun i x r W' hi hW' hx => badIns_c x ia pa _ _ ic pc hn hm r lo w.heap.size W' hx (cell_below hW' e0) (cell_below hW' e1)) (fun _ _ => by kernel_rfl)
  have W1 := fun W => within_c c.ins.length 1 3000 W
  unfold codeOk
  clear hq h0 h1
  generalize (c.pats.any fun q => !patOk (patD q)) = k1 at *
  generalize (c.ins.any fun i => !insOkP c.ins.length c.pats.length i) = k2 at *
  generalize decide (1 ≤ (c.ins.length : Int) ∧ (c.ins.length : Int) ≤ 3000) = k0 at *
  generalize c.ins.length = n at *
  generalize c.pats.length = m at *
  replace H1 := Lib.hid H1; replace H2 := Lib.hid H2
  cases k0
  · go_enter Try.func16, Try.ntmps16
    go_upto_region 1 with fail
    have C : RowAt (w.alloc (.cells #[.slice ia n ic, .slice pa m pc] 31)) (w.heap.size) 0 [.slice ia n ic, .slice pa m pc] := RowAt.box w #[.slice ia n ic, .slice pa m pc] 31
    have hw : Below w.heap.size w (w.alloc (.cells #[.slice ia n ic, .slice pa m pc] 31)) := by go_grown
    generalize (w.alloc (.cells #[.slice ia n ic, .slice pa m pc] 31)) = w0 at *
    obtain ⟨c_0, c_1⟩ := C.box2; have hsC := World.block_lt_of_cell? _ _ c_0; dsimp only at hsC
    go_wp2_with (go_at_call 33; ((with_reducible refine (W1 _).mono ?_); rintro e w1 ⟨rfl, rfl⟩))
    go_returns
    exact ⟨rfl, hw⟩
  cases k1
  · go_enter Try.func16, Try.ntmps16
    go_upto_region 1 with fail
    have C : RowAt (w.alloc (.cells #[.slice ia n ic, .slice pa m pc] 31)) (w.heap.size) 0 [.slice ia n ic, .slice pa m pc] := RowAt.box w #[.slice ia n ic, .slice pa m pc] 31
    have hw : Below w.heap.size w (w.alloc (.cells #[.slice ia n ic, .slice pa m pc] 31)) := by go_grown
    generalize (w.alloc (.cells #[.slice ia n ic, .slice pa m pc] 31)) = w0 at *
    obtain ⟨c_0, c_1⟩ := C.box2; have hsC := World.block_lt_of_cell? _ _ c_0; dsimp only at hsC
    go_wp2_with (first | (go_at_call 33; ((with_reducible refine (W1 _).mono ?_); rintro e w1 ⟨rfl, rfl⟩)) | (go_at_call 34; ((with_reducible refine (H1.out _ hw).mono ?_); rintro e w1 ⟨rfl, hb⟩; have hw := hw.trans (hb.mono hw.size); have C := C.below hb; obtain ⟨c_0, c_1⟩ := C.box2; have hsC := World.block_lt_of_cell? _ _ c_0; dsimp only at hsC; clear hb)) | (go_at_call 37; ((with_reducible refine (H2.out _ hw c_0 c_1).mono ?_); rintro e w1 ⟨rfl, hb⟩; have hw := hw.trans (hb.mono hw.size); have C := C.below hb; obtain ⟨c_0, c_1⟩ := C.box2; have hsC := World.block_lt_of_cell? _ _ c_0; dsimp only at hsC; clear hb)))
    go_returns
    exact ⟨by first | rfl | (simp; done), hw⟩
  · go_enter Try.func16, Try.ntmps16
    go_upto_region 1 with fail
    have C : RowAt (w.alloc (.cells #[.slice ia n ic, .slice pa m pc] 31)) (w.heap.size) 0 [.slice ia n ic, .slice pa m pc] := RowAt.box w #[.slice ia n ic, .slice pa m pc] 31
    have hw : Below w.heap.size w (w.alloc (.cells #[.slice ia n ic, .slice pa m pc] 31)) := by go_grown
    generalize (w.alloc (.cells #[.slice ia n ic, .slice pa m pc] 31)) = w0 at *
    obtain ⟨c_0, c_1⟩ := C.box2; have hsC := World.block_lt_of_cell? _ _ c_0; dsimp only at hsC
    go_wp2_with (first | (go_at_call 33; ((with_reducible refine (W1 _).mono ?_); rintro e w1 ⟨rfl, rfl⟩)) | (go_at_call 34; ((with_reducible refine (H1.out _ hw).mono ?_); rintro e w1 ⟨rfl, hb⟩; have hw := hw.trans (hb.mono hw.size); have C := C.below hb; obtain ⟨c_0, c_1⟩ := C.box2; have hsC := World.block_lt_of_cell? _ _ c_0; dsimp only at hsC; clear hb)))
    go_returns
    exact ⟨rfl, hw⟩

end Go.Proofs.Ytklfepnokidnaaa
