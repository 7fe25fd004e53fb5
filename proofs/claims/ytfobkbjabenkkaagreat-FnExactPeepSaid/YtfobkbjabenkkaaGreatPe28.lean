/- Parts of the proof, merged: CodeOk, InsOk3a, InsOk3. -/
import Derived.Test.YtfobkbjabenkkaaGreatPe27
/- CodeOk: the program's. -/
namespace Go.Proofs.YtfobkbjabenkkaaGreat
open Go.RowKit
set_option linter.unusedVariables false
set_option linter.unusedSimpArgs false
attribute [local go_sem] Ext.cell

def toD (x : GPNode) : GDNode := ⟨x.kind, x.n, x.s, x.kids⟩
def patD (q : GPat) : GData := ⟨q.nodes.map toD⟩
theorem Sl.map' {α β : Type} {R : Reading α} {R' : Reading β} (f : α → β) (hf : ∀ lo w r x, R lo w r x → R' lo w r (f x)) {sz lo : Nat} {w : World} {v : Value} {xs : List α} (h : Sl R sz lo w v xs) : Sl R' sz lo w v (xs.map f) := by
  obtain ⟨a, c, rfl, h1, h2, h3⟩ := h
  refine ⟨a, c, by rw [List.length_map], by rw [List.length_map]; exact h1, h2, fun h0 => ?_⟩
  obtain ⟨b, off, h4, h5, h6⟩ := h3 (by rwa [List.length_map] at h0)
  refine ⟨b, off, h4, h5, fun i y hy => ?_⟩
  rw [List.getElem?_map] at hy
  obtain ⟨x, hx, rfl⟩ := Option.map_eq_some_iff.1 hy
  obtain ⟨r, h7, h8⟩ := h6 i x hx
  exact ⟨r, hf _ _ _ _ h7, h8⟩
theorem GPat.toData {lo : Nat} {w : World} {r : List Value} {q : GPat} (h : GPat.R lo w r q) : GData.R lo w r (patD q) := by
  obtain ⟨u0, hr, _, h0⟩ := h
  exact ⟨u0, hr, trivial, h0.map' toD fun lo w r x hx => hx⟩
def CodeSmall (c : GCode) : Prop := c.ins.length ≤ 1152921504606846976 ∧ c.pats.length ≤ 1152921504606846976 ∧ ∀ q ∈ c.pats, q.nodes.length ≤ 1152921504606846976
theorem CodeSmall.bulk {c : GCode} (h : GCode.bulk c ≤ 1048576) : CodeSmall c := by
  unfold GCode.bulk at h
  have h1 := bulkS_nonneg GIns.bulk_nonneg c.ins
  have h2 := bulkS_nonneg GPat.bulk_nonneg c.pats
  have h3 := length_le_bulkS (f := GIns.bulk) GIns.bulk_nonneg c.ins
  have h4 := length_le_bulkS (f := GPat.bulk) GPat.bulk_nonneg c.pats
  refine ⟨by omega, by omega, fun q hq => ?_⟩
  obtain ⟨i, hi, rfl⟩ := List.getElem_of_mem hq
  have h5 := le_bulkS (f := GPat.bulk) GPat.bulk_nonneg (List.getElem?_eq_getElem hi)
  have h6 : GPat.bulk c.pats[i] = bulkS GPNode.bulk c.pats[i].nodes := rfl
  have h7 := length_le_bulkS (f := GPNode.bulk) GPNode.bulk_nonneg c.pats[i].nodes
  omega
def codeOk (c : GCode) : Bool := decide (1 ≤ (c.ins.length : Int) ∧ (c.ins.length : Int) ≤ 3000) && (!(c.pats.any fun q => !patOk (patD q)) && !(c.ins.any fun i => !insOkP c.ins.length c.pats.length i))

set_option maxRecDepth 100000 in
set_option maxHeartbeats 4000000 in
theorem badPat_c (q : GPat) (hq : q.nodes.length ≤ 1152921504606846976) (r : List Value) (lo : Nat) (w : World) (hr : GPat.R lo w r q) :
    Calls Tryz.prog 42 (#[.agg r.toArray] ++ #[]) w fun e w' => e = .returned (.bool (!patOk (patD q))) ∧ Below w.heap.size w w' := by
  have hR := GPat.toData hr
  obtain ⟨u0, rfl, _, h0⟩ := hr
  obtain ⟨a, c, rfl⟩ := h0.form
  have c1 := fun W (hW : Below w.heap.size w W) => PatOk_c (patD q) (by unfold patD; simp only [List.length_map]; exact hq) _ lo W (GData.good.below hR hW)
  clear h0 hR hq
  generalize patOk (patD q) = k at *
  generalize q.nodes.length = n at *
  replace c1 := Lib.hid c1
  show Calls Tryz.prog 42 #[.agg #[.slice a n c]] w _
  go_enter Tryz.func42, Tryz.ntmps42
  go_upto_region 1 with fail
  have C : RowAt (w.alloc (.cells #[.slice a n c] 55)) (w.heap.size) 0 [.slice a n c] := RowAt.box w #[.slice a n c] 55
  have hw : Below w.heap.size w (w.alloc (.cells #[.slice a n c] 55)) := by go_grown
  generalize (w.alloc (.cells #[.slice a n c] 55)) = w0 at *
  have c_0 := C.box1; have hsC := World.block_lt_of_cell? _ _ c_0; dsimp only at hsC
  go_wp2_with (go_at_call 43; ((with_reducible refine (c1.out _ hw).mono ?_); rintro e w1 ⟨rfl, hb⟩; have hw := hw.trans (hb.mono hw.size); have C := C.below hb; have c_0 := C.box1; have hsC := World.block_lt_of_cell? _ _ c_0; dsimp only at hsC; clear hb))
  go_returns
  exact ⟨rfl, hw⟩

set_option maxRecDepth 100000 in
set_option maxHeartbeats 4000000 in
theorem badIns_c (x : GIns) (ia pa : Option Addr) (n m ic pc : Nat) (hn : n ≤ 1152921504606846976) (hm : m ≤ 1152921504606846976) (r : List Value) (lo b : Nat) (w : World) (hr : GIns.R lo w r x) (e0 : w.cell? ⟨b, 0, none⟩ = some (.slice ia n ic)) (e1 : w.cell? ⟨b, 1, none⟩ = some (.slice pa m pc)) :
    Calls Tryz.prog 45 (#[.agg r.toArray] ++ #[.pointer (some ⟨b, 0, none⟩)]) w fun e w' => e = .returned (.bool (!insOkP n m x)) ∧ Below w.heap.size w w' := by
  obtain ⟨op, a, bb, s⟩ := x
  obtain ⟨rfl, ho, ha, hb, hs⟩ := hr
  have c1 := fun W => insOk_flat op a bb s hs ha hb ho ia pa n m ic pc hn hm W
  generalize insOkP n m ⟨op, a, bb, s⟩ = k at *
  have hbW := World.block_lt_of_cell? _ _ e0
  dsimp only at *
  show Calls Tryz.prog 45 #[.agg #[.int .i64 op, .int .i64 a, .int .i64 bb, .string s], .pointer (some ⟨b, 0, none⟩)] w _
  go_enter Tryz.func45, Tryz.ntmps45
  go_upto_region 1 with fail
  have I : RowAt (w.alloc (.cells #[.int .i64 op, .int .i64 a, .int .i64 bb, .string s] 57)) (w.heap.size) 0 [.int .i64 op, .int .i64 a, .int .i64 bb, .string s] := RowAt.box w #[.int .i64 op, .int .i64 a, .int .i64 bb, .string s] 57
  have hw : Below w.heap.size w (w.alloc (.cells #[.int .i64 op, .int .i64 a, .int .i64 bb, .string s] 57)) := by go_grown
  generalize (w.alloc (.cells #[.int .i64 op, .int .i64 a, .int .i64 bb, .string s] 57)) = w0 at *
  have e0' := cell_below hw e0
  have e1' := cell_below hw e1
  have hbW' := World.block_lt_of_cell? _ _ e0'
  dsimp only at hbW'
  obtain ⟨i_0, i_1, i_2, i_3⟩ := I.box4; have hsI := World.block_lt_of_cell? _ _ i_0; dsimp only at hsI
  go_wp2_with (go_at_call 46; ((with_reducible refine (c1 _).mono ?_); rintro e w1 ⟨rfl, hb⟩; have hw := hw.trans (hb.mono hw.size); have I := I.below hb; obtain ⟨i_0, i_1, i_2, i_3⟩ := I.box4; have hsI := World.block_lt_of_cell? _ _ i_0; dsimp only at hsI; clear hb))
  go_returns
  exact ⟨rfl, hw⟩

set_option maxRecDepth 100000 in
set_option maxHeartbeats 4000000 in
theorem CodeOk_c (c : GCode) (hS : CodeSmall c) (r : List Value) (lo : Nat) (w : World) (hr : GCode.R lo w r c) :
    Calls Tryz.prog 20 #[.agg r.toArray] w fun e w' => e = .returned (.bool (codeOk c)) ∧ Below w.heap.size w w' := by
  obtain ⟨u0, u1, rfl, _, h0, h1⟩ := hr
  obtain ⟨ia, ic, rfl⟩ := h0.form
  obtain ⟨pa, pc, rfl⟩ := h1.form
  obtain ⟨hn, hm, hq⟩ := hS
  have H1 := fun W (hW : Below w.heap.size w W) => containsFuncPat_c c.pats (fun q => !patOk (patD q)) 42 #[] lo (.slice pa c.pats.length pc) W (h1.below GPat.good hW)
    (fun i x r W' hi hW' hx => badPat_c x (hq x (List.mem_of_getElem? hi)) r lo W' hx) (fun _ _ => by kernel_rfl)
  have H2 := fun W (hW : Below w.heap.size w W) (e0 : W.cell? ⟨w.heap.size, 0, none⟩ = some (.slice ia c.ins.length ic)) (e1 : W.cell? ⟨w.heap.size, 1, none⟩ = some (.slice pa c.pats.length pc)) =>
    containsFuncIns_c c.ins (fun i => !insOkP c.ins.length c.pats.length i) 45 #[.pointer (some ⟨w.heap.size, 0, none⟩)] lo (.slice ia c.ins.length ic) W (h0.below GIns.good hW)
      (fun i x r W' hi hW' hx => badIns_c x ia pa _ _ ic pc hn hm r lo w.heap.size W' hx (cell_below hW' e0) (cell_below hW' e1)) (fun _ _ => by kernel_rfl)
  have W1 := fun W => within_c c.ins.length 1 3000 W
  unfold codeOk
  clear hq h0 h1
  generalize (c.pats.any fun q => !patOk (patD q)) = k1 at *
  generalize (c.ins.any fun i => !insOkP c.ins.length c.pats.length i) = k2 at *
  generalize decide (1 ≤ (c.ins.length : Int) ∧ (c.ins.length : Int) ≤ 3000) = k0 at *
  generalize c.ins.length = n at *
  generalize c.pats.length = m at *
  replace H1 := Lib.hid H1; replace H2 := Lib.hid H2
  cases k0
  · go_enter Tryz.func20, Tryz.ntmps20
    go_upto_region 1 with fail
    have C : RowAt (w.alloc (.cells #[.slice ia n ic, .slice pa m pc] 30)) (w.heap.size) 0 [.slice ia n ic, .slice pa m pc] := RowAt.box w #[.slice ia n ic, .slice pa m pc] 30
    have hw : Below w.heap.size w (w.alloc (.cells #[.slice ia n ic, .slice pa m pc] 30)) := by go_grown
    generalize (w.alloc (.cells #[.slice ia n ic, .slice pa m pc] 30)) = w0 at *
    obtain ⟨c_0, c_1⟩ := C.box2; have hsC := World.block_lt_of_cell? _ _ c_0; dsimp only at hsC
    go_wp2_with (go_at_call 40; ((with_reducible refine (W1 _).mono ?_); rintro e w1 ⟨rfl, rfl⟩))
    go_returns
    exact ⟨rfl, hw⟩
  cases k1
  · go_enter Tryz.func20, Tryz.ntmps20
    go_upto_region 1 with fail
    have C : RowAt (w.alloc (.cells #[.slice ia n ic, .slice pa m pc] 30)) (w.heap.size) 0 [.slice ia n ic, .slice pa m pc] := RowAt.box w #[.slice ia n ic, .slice pa m pc] 30
    have hw : Below w.heap.size w (w.alloc (.cells #[.slice ia n ic, .slice pa m pc] 30)) := by go_grown
    generalize (w.alloc (.cells #[.slice ia n ic, .slice pa m pc] 30)) = w0 at *
    obtain ⟨c_0, c_1⟩ := C.box2; have hsC := World.block_lt_of_cell? _ _ c_0; dsimp only at hsC
    go_wp2_with (first | (go_at_call 40; ((with_reducible refine (W1 _).mono ?_); rintro e w1 ⟨rfl, rfl⟩)) | (go_at_call 41; ((with_reducible refine (H1.out _ hw).mono ?_); rintro e w1 ⟨rfl, hb⟩; have hw := hw.trans (hb.mono hw.size); have C := C.below hb; obtain ⟨c_0, c_1⟩ := C.box2; have hsC := World.block_lt_of_cell? _ _ c_0; dsimp only at hsC; clear hb)) | (go_at_call 44; ((with_reducible refine (H2.out _ hw c_0 c_1).mono ?_); rintro e w1 ⟨rfl, hb⟩; have hw := hw.trans (hb.mono hw.size); have C := C.below hb; obtain ⟨c_0, c_1⟩ := C.box2; have hsC := World.block_lt_of_cell? _ _ c_0; dsimp only at hsC; clear hb)))
    go_returns
    exact ⟨by first | rfl | (simp; done), hw⟩
  · go_enter Tryz.func20, Tryz.ntmps20
    go_upto_region 1 with fail
    have C : RowAt (w.alloc (.cells #[.slice ia n ic, .slice pa m pc] 30)) (w.heap.size) 0 [.slice ia n ic, .slice pa m pc] := RowAt.box w #[.slice ia n ic, .slice pa m pc] 30
    have hw : Below w.heap.size w (w.alloc (.cells #[.slice ia n ic, .slice pa m pc] 30)) := by go_grown
    generalize (w.alloc (.cells #[.slice ia n ic, .slice pa m pc] 30)) = w0 at *
    obtain ⟨c_0, c_1⟩ := C.box2; have hsC := World.block_lt_of_cell? _ _ c_0; dsimp only at hsC
    go_wp2_with (first | (go_at_call 40; ((with_reducible refine (W1 _).mono ?_); rintro e w1 ⟨rfl, rfl⟩)) | (go_at_call 41; ((with_reducible refine (H1.out _ hw).mono ?_); rintro e w1 ⟨rfl, hb⟩; have hw := hw.trans (hb.mono hw.size); have C := C.below hb; obtain ⟨c_0, c_1⟩ := C.box2; have hsC := World.block_lt_of_cell? _ _ c_0; dsimp only at hsC; clear hb)))
    go_returns
    exact ⟨rfl, hw⟩

end Go.Proofs.YtfobkbjabenkkaaGreat

/- When an instruction is right: the reference's test: its parts. -/
namespace Go.Proofs.YtfobkbjabenkkaaGreat
open Go.RowKit
set_option linter.unusedVariables false
set_option linter.unusedSimpArgs false
attribute [local go_sem] Ext.cell

set_option maxRecDepth 100000 in
set_option maxHeartbeats 4000000 in
theorem l04Prim_c (s : ByteArray) (w : World) : Calls Tryz.prog 62 #[.string s] w fun e w' => e = .returned (.bool (primOk s)) ∧ Below w.heap.size w w' := by
  have H := row_strs (prim_row w 9) prim_ok 10 (by decide) (by omega)
  obtain ⟨W0, hW0⟩ : ∃ W0, W0 = w.alloc (.cells (primB.map Value.string).toArray 9) := ⟨_, rfl⟩
  have hw0 : Below w.heap.size w W0 := by rw [hW0]; go_grown
  rw [← hW0] at H
  obtain ⟨a, c, hv, -, -, h0⟩ := H
  injection hv with e1 e2 e3
  subst e1
  replace h0 := Lib.hid h0
  clear e2 e3
  go_enter Tryz.func62, Tryz.ntmps62
  go_upto_region 2 with fail
  rw [show w.alloc (.cells #[.string ⟨#[43]⟩, .string ⟨#[45]⟩, .string ⟨#[42]⟩, .string ⟨#[47]⟩, .string ⟨#[37]⟩, .string ⟨#[94]⟩, .string ⟨#[61]⟩, .string ⟨#[60, 62]⟩, .string ⟨#[60]⟩, .string ⟨#[60, 61]⟩] 9) = W0 from hW0.symm]
  clear hW0
  go_loopw [7] (fun i wr => ∃ k : Nat, k ≤ 10 ∧ i = .int .i64 k ∧ Below w.heap.size w wr ∧ Below W0.heap.size W0 wr ∧ Hid (∀ y ∈ primB.take k, (s.toList == y.toList) = false)) (fun i _ => 10 - (intOf i).toNat)
  case atStart => exact ⟨0, by omega, rfl, hw0, Below.refl _ _, fun y hy => by simp at hy⟩
  case round =>
    obtain ⟨k, hk, rfl, hw, hw1, hF⟩ := hrel
    have hlen : primB.length = 10 := rfl
    by_cases hlt : k < 10
    · obtain ⟨b1, o1, x, r, _, hab, P1, ⟨rfl, -⟩, r1⟩ := (h0.out.below StrR.good hw1).get (n := 10) (Lib.hid rfl) hlt
      obtain ⟨rfl, rfl⟩ : w.heap.size = b1 ∧ 0 = o1 := by injection hab with h; injection h with h1 h2; exact ⟨h1, h2⟩
      have e0 : wr.cell? ⟨w.heap.size, k, none⟩ = some (.string x) := by simpa using r1 0 _ rfl
      clear r1 hab hlen
      cases hq : (s.toList == x.toList) with
      | true =>
        have hfin : primOk s = true := List.any_eq_true.2 ⟨x, List.mem_of_getElem? P1.out, by simpa using hq⟩
        replace hfin := Lib.hid hfin
        go_wp2_with fail
        go_returns
        exact ⟨by rw [hfin.out]; rfl, hw⟩
      | false =>
        have hq' := Lib.hid hq
        go_wp2_with fail
        go_roundw
        case rel => exact ⟨k + 1, by omega, by go_num, hw, hw1, by
          show ∀ y ∈ primB.take (k + 1), (s.toList == y.toList) = false
          rw [take_snoc' P1.out]
          intro y hy
          rcases List.mem_append.1 hy with h | h
          · exact hF.out y h
          · simp at h; subst h; exact hq'.out⟩
        case measure => simp [intOf]; omega
    · obtain rfl : k = 10 := by omega
      have hfin : primOk s = false := List.any_eq_false.2 fun y hy => by rw [hF.out y (by rw [List.take_of_length_le (by rw [hlen]; omega)]; exact hy)]; simp
      replace hfin := Lib.hid hfin
      clear hlen
      go_wp2_with fail
      go_returns
      exact ⟨by rw [hfin.out]; rfl, hw⟩

set_option maxHeartbeats 2000000 in
theorem l10Place_c (ia pa : Option Addr) (n m ic pc : Nat) (hn : n ≤ 1152921504606846976) (a : Int) (w : World) :
    Calls Tryz.prog 61 #[.agg #[.slice ia n ic, .slice pa m pc], .int .i64 a] w fun e w' => e = .returned (.bool (decide (0 ≤ a ∧ a ≤ (n : Int) - 1))) ∧ Below w.heap.size w w' := by
  by_cases h0 : 0 ≤ a
  · have d0 := decide_eq_true h0
    by_cases h1 : a < (n : Int)
    · have d1 := decide_eq_true h1
      rw [decide_eq_true (show 0 ≤ a ∧ a ≤ (n : Int) - 1 by omega)]
      clear h0 h1
      go_enter Tryz.func61, Tryz.ntmps61
      go_wp2_with fail
      go_returns
      exact ⟨by first | rfl | (simp; done) | (simp_all; done), by go_grown⟩
    · have d1 := decide_eq_false h1
      rw [decide_eq_false (show ¬ (0 ≤ a ∧ a ≤ (n : Int) - 1) by omega)]
      clear h0 h1
      go_enter Tryz.func61, Tryz.ntmps61
      go_wp2_with fail
      go_returns
      exact ⟨by first | rfl | (simp; done) | (simp_all; done), by go_grown⟩
  · have d0 := decide_eq_false h0
    rw [decide_eq_false (show ¬ (0 ≤ a ∧ a ≤ (n : Int) - 1) by omega)]
    clear h0
    go_enter Tryz.func61, Tryz.ntmps61
    go_wp2_with fail
    go_returns
    exact ⟨by first | rfl | (simp; done) | (simp_all; done), by go_grown⟩

theorem leadsP_cases {op : Int} (h : leadsP op = true) : op = 8 ∨ op = 9 ∨ op = 12 ∨ op = 13 ∨ op = 18 := by
  unfold leadsP at h
  simpa using h
theorem leadsP_not {op : Int} (h : leadsP op = false) : (op == 8) = false ∧ (op == 9) = false ∧ (op == 12) = false ∧ (op == 13) = false ∧ (op == 18) = false := by
  unfold leadsP at h
  simpa using h

end Go.Proofs.YtfobkbjabenkkaaGreat

/- When an instruction is right: the reference's test, the first kinds. -/
namespace Go.Proofs.YtfobkbjabenkkaaGreat
open Go.RowKit
set_option linter.unusedVariables false
set_option linter.unusedSimpArgs false
attribute [local go_sem] Ext.cell

set_option maxRecDepth 100000 in
set_option maxHeartbeats 8000000 in
theorem l10Ins_0 (op a b : Int) (s : ByteArray) (hs : StrOk s) (ha : I64 a) (hb : I64 b) (ho : I64 op) (ia pa : Option Addr) (n m ic pc : Nat) (hn : n ≤ 1152921504606846976) (hm : m ≤ 1152921504606846976) (w : World) (hl : leadsP op = true) :
    Calls Tryz.prog 33 #[.agg #[.slice ia n ic, .slice pa m pc], .agg #[.int .i64 op, .int .i64 a, .int .i64 b, .string s]] w fun e w' => e = .returned (.bool (decide (0 ≤ a ∧ a ≤ (n : Int) - 1) && ((b == 0) && s.toList.isEmpty))) ∧ Below w.heap.size w w' := by
  have cw := fun W => Wrap_c a ha W
  have cl := fun x W => l10Place_c ia pa n m ic pc hn x W
  have cp := fun W => l04Prim_c s W
  have cs := fun W => l04ConOk_c s a true hs W
  have hg : givenOk s = (s.toList == [112, 114, 105, 110, 116] || (s.toList == [115, 97, 121] || (s.toList == [114, 101, 97, 100] || s.toList == [115, 105, 122, 101]))) := rfl
  clear cw cp cs hg
  have hl' := leadsP_cases hl
  clear hl
  rcases hl' with rfl | rfl | rfl | rfl | rfl <;> cases e1 : decide (0 ≤ a ∧ a ≤ (n : Int) - 1) <;> cases e2 : (b == 0) <;> cases e3 : s.toList.isEmpty
  all_goals
    have cl1 := fun W => cl a W
    rw [e1] at cl1
    clear e1 cl
    go_enter Tryz.func33, Tryz.ntmps33
    go_wp2_with (first | (go_at_call 61; ((with_reducible refine (cl1 _).mono ?_); rintro e w1 ⟨rfl, hb⟩; have hw : Below w.heap.size w w1 := Below.trans (by go_grown) (hb.mono (by go_grown)); obtain ⟨hc, hf⟩ := bcell hb; have hz := hw.size; have hz1 := hb.size; have hs0 : w.heap.size < w1.heap.size := (by have h := hz1; (try simp only [World.size_alloc, World.size_setCell, World.size_drew] at h); omega); have hs1 : w.heap.size + 1 < w1.heap.size := (by have h := hz1; (try simp only [World.size_alloc, World.size_setCell, World.size_drew] at h); omega); clear hb)))
    all_goals try go_returns
    all_goals try refine ⟨?_, ?_⟩
    all_goals try (first | assumption | (go_grown; done))
    all_goals try rfl
    all_goals ((try simp only [decide_eq_true_eq, decide_eq_false_iff_not] at d0 d1); first | (exfalso; omega) | (simp; omega) | (simp_all; done))

set_option maxRecDepth 100000 in
set_option maxHeartbeats 8000000 in
theorem l10Ins_1 (op a b : Int) (s : ByteArray) (hs : StrOk s) (ha : I64 a) (hb : I64 b) (ho : I64 op) (ia pa : Option Addr) (n m ic pc : Nat) (hn : n ≤ 1152921504606846976) (hm : m ≤ 1152921504606846976) (w : World) (hl : leadsP op = false) (h : op = 20) :
    Calls Tryz.prog 33 #[.agg #[.slice ia n ic, .slice pa m pc], .agg #[.int .i64 op, .int .i64 a, .int .i64 b, .string s]] w fun e w' => e = .returned (.bool (decide (0 ≤ a ∧ a ≤ (m : Int) - 1) && (decide (0 ≤ b ∧ b ≤ (n : Int) - 1) && s.toList.isEmpty))) ∧ Below w.heap.size w w' := by
  have cw := fun W => Wrap_c a ha W
  have cl := fun x W => l10Place_c ia pa n m ic pc hn x W
  have cp := fun W => l04Prim_c s W
  have cs := fun W => l04ConOk_c s a true hs W
  have hg : givenOk s = (s.toList == [112, 114, 105, 110, 116] || (s.toList == [115, 97, 121] || (s.toList == [114, 101, 97, 100] || s.toList == [115, 105, 122, 101]))) := rfl
  subst h
  clear cw cp cs hg hl
  by_cases h0 : 0 ≤ a <;> by_cases h1 : a < (m : Int) <;> cases e2 : decide (0 ≤ b ∧ b ≤ (n : Int) - 1) <;> cases e3 : s.toList.isEmpty
  all_goals
    have cl1 := fun W => cl b W
    rw [e2] at cl1
    clear e2 cl
    first | (have e1 := decide_eq_true (show 0 ≤ a ∧ a ≤ (m : Int) - 1 by omega)) | (have e1 := decide_eq_false (show ¬ (0 ≤ a ∧ a ≤ (m : Int) - 1) by omega))
    rw [e1]
    first | (have d0 := decide_eq_true h0) | (have d0 := decide_eq_false h0)
    first | (have d1 := decide_eq_true h1) | (have d1 := decide_eq_false h1)
    clear h0 h1 e1
    go_enter Tryz.func33, Tryz.ntmps33
    go_wp2_with (first | (go_at_call 61; ((with_reducible refine (cl1 _).mono ?_); rintro e w1 ⟨rfl, hb⟩; have hw : Below w.heap.size w w1 := Below.trans (by go_grown) (hb.mono (by go_grown)); obtain ⟨hc, hf⟩ := bcell hb; have hz := hw.size; have hz1 := hb.size; have hs0 : w.heap.size < w1.heap.size := (by have h := hz1; (try simp only [World.size_alloc, World.size_setCell, World.size_drew] at h); omega); have hs1 : w.heap.size + 1 < w1.heap.size := (by have h := hz1; (try simp only [World.size_alloc, World.size_setCell, World.size_drew] at h); omega); clear hb)))
    all_goals try go_returns
    all_goals try refine ⟨?_, ?_⟩
    all_goals try (first | assumption | (go_grown; done))
    all_goals try rfl
    all_goals ((try simp only [decide_eq_true_eq, decide_eq_false_iff_not] at d0 d1); first | (exfalso; omega) | (simp; omega) | (simp_all; done))

set_option maxRecDepth 100000 in
set_option maxHeartbeats 8000000 in
theorem l10Ins_2 (op a b : Int) (s : ByteArray) (hs : StrOk s) (ha : I64 a) (hb : I64 b) (ho : I64 op) (ia pa : Option Addr) (n m ic pc : Nat) (hn : n ≤ 1152921504606846976) (hm : m ≤ 1152921504606846976) (w : World) (hl : leadsP op = false) (h : op = 6 ∨ op = 15) :
    Calls Tryz.prog 33 #[.agg #[.slice ia n ic, .slice pa m pc], .agg #[.int .i64 op, .int .i64 a, .int .i64 b, .string s]] w fun e w' => e = .returned (.bool (decide (0 ≤ a ∧ a ≤ 3000) && ((b == 0) && s.toList.isEmpty))) ∧ Below w.heap.size w w' := by
  have cw := fun W => Wrap_c a ha W
  have cl := fun x W => l10Place_c ia pa n m ic pc hn x W
  have cp := fun W => l04Prim_c s W
  have cs := fun W => l04ConOk_c s a true hs W
  have hg : givenOk s = (s.toList == [112, 114, 105, 110, 116] || (s.toList == [115, 97, 121] || (s.toList == [114, 101, 97, 100] || s.toList == [115, 105, 122, 101]))) := rfl
  clear cw cp cs hg hl cl
  rcases h with rfl | rfl <;> by_cases h0 : 0 ≤ a <;> by_cases h1 : a ≤ 3000 <;> cases e2 : (b == 0) <;> cases e3 : s.toList.isEmpty
  all_goals
    first | (have e1 := decide_eq_true (show 0 ≤ a ∧ a ≤ 3000 by omega)) | (have e1 := decide_eq_false (show ¬ (0 ≤ a ∧ a ≤ 3000) by omega))
    rw [e1]
    first | (have d0 := decide_eq_true h0) | (have d0 := decide_eq_false h0)
    first | (have d1 := decide_eq_true h1) | (have d1 := decide_eq_false h1)
    clear h0 h1 e1
    go_enter Tryz.func33, Tryz.ntmps33
    go_wp2_with (first | fail)
    all_goals try go_returns
    all_goals try refine ⟨?_, ?_⟩
    all_goals try (first | assumption | (go_grown; done))
    all_goals try rfl
    all_goals ((try simp only [decide_eq_true_eq, decide_eq_false_iff_not] at d0 d1); first | (exfalso; omega) | (simp; omega) | (simp_all; done))

end Go.Proofs.YtfobkbjabenkkaaGreat
