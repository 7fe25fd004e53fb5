/- Parts of the proof, merged: InsOk3, InsOk4, InsOk5, InsOk6. -/
import Derived.Test.YtklfepnokidnaaaSc32
/- When an instruction is right: the reference's test, the first kinds. -/
namespace Go.Proofs.Ytklfepnokidnaaa
open Go.RowKit
set_option linter.unusedVariables false
set_option linter.unusedSimpArgs false
attribute [local go_sem] Ext.cell

set_option maxRecDepth 100000 in
set_option maxHeartbeats 8000000 in
theorem l10Ins_0 (op a b : Int) (s : ByteArray) (hs : StrOk s) (ha : I64 a) (hb : I64 b) (ho : I64 op) (ia pa : Option Addr) (n m ic pc : Nat) (hn : n ≤ 1152921504606846976) (hm : m ≤ 1152921504606846976) (w : World) (hl : leadsP op = true) :
    Calls Try.prog 26 #[.agg #[.slice ia n ic, .slice pa m pc], .agg #[.int .i64 op, .int .i64 a, .int .i64 b, .string s]] w fun e w' => e = .returned (.bool (decide (0 ≤ a ∧ a ≤ (n : Int) - 1) && ((b == 0) && s.toList.isEmpty))) ∧ Below w.heap.size w w' := by
  have cw := fun W => Wrap_c a ha W
  have cl := fun x W => l10Place_c ia pa n m ic pc hn x W
  have cp := fun W => l04Prim_c s W
  have cs := fun W => l04ConOk_c s a true hs W
  have hg : givenOk s = (s.toList == [112, 114, 105, 110, 116] || (s.toList == [115, 97, 121] || (s.toList == [114, 101, 97, 100] || s.toList == [115, 105, 122, 101]))) := rfl
  clear cw cp cs hg
  have hl' := leadsP_cases hl
  clear hl
  rcases hl' with rfl | rfl | rfl | rfl | rfl <;> cases e1 : decide (0 ≤ a ∧ a ≤ (n : Int) - 1) <;> cases e2 : (b == 0) <;> cases e3 : s.toList.isEmpty
  all_goals
    have cl1 := fun W => cl a W
    rw [e1] at cl1
    clear e1 cl
    go_enter Try.func26, Try.ntmps26
    go_wp2_with (first | (go_at_call 55; ((with_reducible refine (cl1 _).mono ?_); rintro e w1 ⟨rfl, hb⟩; have hw : Below w.heap.size w w1 := Below.trans (by go_grown) (hb.mono (by go_grown)); obtain ⟨hc, hf⟩ := bcell hb; have hz := hw.size; have hz1 := hb.size; have hs0 : w.heap.size < w1.heap.size := (by have h := hz1; (try simp only [World.size_alloc, World.size_setCell, World.size_drew] at h); omega); have hs1 : w.heap.size + 1 < w1.heap.size := (by have h := hz1; (try simp only [World.size_alloc, World.size_setCell, World.size_drew] at h); omega); clear hb)))
    all_goals try go_returns
    all_goals try refine ⟨?_, ?_⟩
    all_goals try (first | assumption | (go_grown; done))
    all_goals try rfl
    all_goals ((try simp only [decide_eq_true_eq, decide_eq_false_iff_not] at d0 d1); first | (exfalso; omega) | (simp; omega) | (simp_all; done))

set_option maxRecDepth 100000 in
set_option maxHeartbeats 8000000 in
theorem l10Ins_1 (op a b : Int) (s : ByteArray) (hs : StrOk s) (ha : I64 a) (hb : I64 b) (ho : I64 op) (ia pa : Option Addr) (n m ic pc : Nat) (hn : n ≤ 1152921504606846976) (hm : m ≤ 1152921504606846976) (w : World) (hl : leadsP op = false) (h : op = 20) :
    Calls Try.prog 26 #[.agg #[.slice ia n ic, .slice pa m pc], .agg #[.int .i64 op, .int .i64 a, .int .i64 b, .string s]] w fun e w' => e = .returned (.bool (decide (0 ≤ a ∧ a ≤ (m : Int) - 1) && (decide (0 ≤ b ∧ b ≤ (n : Int) - 1) && s.toList.isEmpty))) ∧ Below w.heap.size w w' := by
  have cw := fun W => Wrap_c a ha W
  have cl := fun x W => l10Place_c ia pa n m ic pc hn x W
  have cp := fun W => l04Prim_c s W
  have cs := fun W => l04ConOk_c s a true hs W
  have hg : givenOk s = (s.toList == [112, 114, 105, 110, 116] || (s.toList == [115, 97, 121] || (s.toList == [114, 101, 97, 100] || s.toList == [115, 105, 122, 101]))) := rfl
  subst h
  clear cw cp cs hg hl
  by_cases h0 : 0 ≤ a <;> by_cases h1 : a < (m : Int) <;> cases e2 : decide (0 ≤ b ∧ b ≤ (n : Int) - 1) <;> cases e3 : s.toList.isEmpty
  all_goals
    have cl1 := fun W => cl b W
    rw [e2] at cl1
    clear e2 cl
    first | (have e1 := decide_eq_true (show 0 ≤ a ∧ a ≤ (m : Int) - 1 by omega)) | (have e1 := decide_eq_false (show ¬ (0 ≤ a ∧ a ≤ (m : Int) - 1) by omega))
    rw [e1]
    first | (have d0 := decide_eq_true h0) | (have d0 := decide_eq_false h0)
    first | (have d1 := decide_eq_true h1) | (have d1 := decide_eq_false h1)
    clear h0 h1 e1
    go_enter Try.func26, Try.ntmps26
    go_wp2_with (first | (go_at_call 55; ((with_reducible refine (cl1 _).mono ?_); rintro e w1 ⟨rfl, hb⟩; have hw : Below w.heap.size w w1 := Below.trans (by go_grown) (hb.mono (by go_grown)); obtain ⟨hc, hf⟩ := bcell hb; have hz := hw.size; have hz1 := hb.size; have hs0 : w.heap.size < w1.heap.size := (by have h := hz1; (try simp only [World.size_alloc, World.size_setCell, World.size_drew] at h); omega); have hs1 : w.heap.size + 1 < w1.heap.size := (by have h := hz1; (try simp only [World.size_alloc, World.size_setCell, World.size_drew] at h); omega); clear hb)))
    all_goals try go_returns
    all_goals try refine ⟨?_, ?_⟩
    all_goals try (first | assumption | (go_grown; done))
    all_goals try rfl
    all_goals ((try simp only [decide_eq_true_eq, decide_eq_false_iff_not] at d0 d1); first | (exfalso; omega) | (simp; omega) | (simp_all; done))

set_option maxRecDepth 100000 in
set_option maxHeartbeats 8000000 in
theorem l10Ins_2 (op a b : Int) (s : ByteArray) (hs : StrOk s) (ha : I64 a) (hb : I64 b) (ho : I64 op) (ia pa : Option Addr) (n m ic pc : Nat) (hn : n ≤ 1152921504606846976) (hm : m ≤ 1152921504606846976) (w : World) (hl : leadsP op = false) (h : op = 6 ∨ op = 15) :
    Calls Try.prog 26 #[.agg #[.slice ia n ic, .slice pa m pc], .agg #[.int .i64 op, .int .i64 a, .int .i64 b, .string s]] w fun e w' => e = .returned (.bool (decide (0 ≤ a ∧ a ≤ 3000) && ((b == 0) && s.toList.isEmpty))) ∧ Below w.heap.size w w' := by
  have cw := fun W => Wrap_c a ha W
  have cl := fun x W => l10Place_c ia pa n m ic pc hn x W
  have cp := fun W => l04Prim_c s W
  have cs := fun W => l04ConOk_c s a true hs W
  have hg : givenOk s = (s.toList == [112, 114, 105, 110, 116] || (s.toList == [115, 97, 121] || (s.toList == [114, 101, 97, 100] || s.toList == [115, 105, 122, 101]))) := rfl
  clear cw cp cs hg hl cl
  rcases h with rfl | rfl <;> by_cases h0 : 0 ≤ a <;> by_cases h1 : a ≤ 3000 <;> cases e2 : (b == 0) <;> cases e3 : s.toList.isEmpty
  all_goals
    first | (have e1 := decide_eq_true (show 0 ≤ a ∧ a ≤ 3000 by omega)) | (have e1 := decide_eq_false (show ¬ (0 ≤ a ∧ a ≤ 3000) by omega))
    rw [e1]
    first | (have d0 := decide_eq_true h0) | (have d0 := decide_eq_false h0)
    first | (have d1 := decide_eq_true h1) | (have d1 := decide_eq_false h1)
    clear h0 h1 e1
    go_enter Try.func26, Try.ntmps26
    go_wp2_with (first | fail)
    all_goals try go_returns
    all_goals try refine ⟨?_, ?_⟩
    all_goals try (first | assumption | (go_grown; done))
    all_goals try rfl
    all_goals ((try simp only [decide_eq_true_eq, decide_eq_false_iff_not] at d0 d1); first | (exfalso; omega) | (simp; omega) | (simp_all; done))

end Go.Proofs.Ytklfepnokidnaaa

/- When an instruction is right: the reference's test, more kinds. -/
namespace Go.Proofs.Ytklfepnokidnaaa
open Go.RowKit
set_option linter.unusedVariables false
set_option linter.unusedSimpArgs false
attribute [local go_sem] Ext.cell

set_option maxRecDepth 100000 in
set_option maxHeartbeats 8000000 in
theorem l10Ins_3 (op a b : Int) (s : ByteArray) (hs : StrOk s) (ha : I64 a) (hb : I64 b) (ho : I64 op) (ia pa : Option Addr) (n m ic pc : Nat) (hn : n ≤ 1152921504606846976) (hm : m ≤ 1152921504606846976) (w : World) (hl : leadsP op = false) (h : op = 1) :
    Calls Try.prog 26 #[.agg #[.slice ia n ic, .slice pa m pc], .agg #[.int .i64 op, .int .i64 a, .int .i64 b, .string s]] w fun e w' => e = .returned (.bool (decide (-4611686018427387904 ≤ a ∧ a ≤ 4611686018427387903) && ((b == 0) && s.toList.isEmpty))) ∧ Below w.heap.size w w' := by
  have cw := fun W => Wrap_c a ha W
  have cl := fun x W => l10Place_c ia pa n m ic pc hn x W
  have cp := fun W => l04Prim_c s W
  have cs := fun W => l04ConOk_c s a true hs W
  have hg : givenOk s = (s.toList == [112, 114, 105, 110, 116] || (s.toList == [115, 97, 121] || (s.toList == [114, 101, 97, 100] || s.toList == [115, 105, 122, 101]))) := rfl
  subst h
  clear cp cs hg hl cl
  have hw63 : (wrap63 a == a) = decide (-4611686018427387904 ≤ a ∧ a ≤ 4611686018427387903) := by show decide (wrap63 a = a) = _; simp only [wrap63_eq]
  rw [← hw63]
  clear hw63
  generalize wrap63 a = wa at *
  cases e1 : (wa == a) <;> cases e2 : (b == 0) <;> cases e3 : s.toList.isEmpty
  all_goals
    go_enter Try.func26, Try.ntmps26
    go_upto_region 1 with fail
    have C : RowAt (w.alloc (.cells #[.slice ia n ic, .slice pa m pc] 31)) (w.heap.size) 0 [.slice ia n ic, .slice pa m pc] := RowAt.box w #[.slice ia n ic, .slice pa m pc] 31
    have C := C.below (show Below (w.alloc (.cells #[.slice ia n ic, .slice pa m pc] 31)).heap.size (w.alloc (.cells #[.slice ia n ic, .slice pa m pc] 31)) ((w.alloc (.cells #[.slice ia n ic, .slice pa m pc] 31)).alloc (.cells #[.int .i64 1, .int .i64 a, .int .i64 b, .string s] 56)) by go_grown)
    have I : RowAt ((w.alloc (.cells #[.slice ia n ic, .slice pa m pc] 31)).alloc (.cells #[.int .i64 1, .int .i64 a, .int .i64 b, .string s] 56)) (w.heap.size + 1) 0 [.int .i64 1, .int .i64 a, .int .i64 b, .string s] := by have h := RowAt.box (w.alloc (.cells #[.slice ia n ic, .slice pa m pc] 31)) #[.int .i64 1, .int .i64 a, .int .i64 b, .string s] 56; simp only [World.size_alloc] at h; exact h
    have hw : Below w.heap.size w ((w.alloc (.cells #[.slice ia n ic, .slice pa m pc] 31)).alloc (.cells #[.int .i64 1, .int .i64 a, .int .i64 b, .string s] 56)) := by go_grown
    generalize ((w.alloc (.cells #[.slice ia n ic, .slice pa m pc] 31)).alloc (.cells #[.int .i64 1, .int .i64 a, .int .i64 b, .string s] 56)) = w0 at *
    obtain ⟨c_0, c_1⟩ := C.box2; have hsC := World.block_lt_of_cell? _ _ c_0; dsimp only at hsC; obtain ⟨i_0, i_1, i_2, i_3⟩ := I.box4; have hsI := World.block_lt_of_cell? _ _ i_0; dsimp only at hsI
    go_upto_region 6 with fail
    (refine wp_region_ext_lit (by kernel_rfl) (by kernel_rfl) ?_; (repeat (any_goals (first | go_big_quiet_step ((first | (go_at_call 53; exact Calls.ext_same (cw _)))) | quiet_step ((first | (go_at_call 53; exact Calls.ext_same (cw _)))) | (refine wpQuiet_step (fun K hK => ?_); go_simp; split <;> (refine hK _ ?_; clear hK K))))); all_goals (refine wpQuiet_nil ?_; rintro w1 ⟨⟨w2, hb⟩, rfl⟩; have hw := hw.trans (hb.mono hw.size); have C := C.below hb; obtain ⟨c_0, c_1⟩ := C.box2; have hsC := World.block_lt_of_cell? _ _ c_0; dsimp only at hsC; have I := I.below hb; obtain ⟨i_0, i_1, i_2, i_3⟩ := I.box4; have hsI := World.block_lt_of_cell? _ _ i_0; dsimp only at hsI; clear hb))
    all_goals go_wp2_with fail
    all_goals go_returns
    all_goals refine ⟨?_, ?_⟩
    all_goals try (first | assumption | (go_grown; done))
    all_goals try rfl
    all_goals (simp_all; done)

set_option maxRecDepth 100000 in
set_option maxHeartbeats 8000000 in
theorem l10Ins_4 (op a b : Int) (s : ByteArray) (hs : StrOk s) (ha : I64 a) (hb : I64 b) (ho : I64 op) (ia pa : Option Addr) (n m ic pc : Nat) (hn : n ≤ 1152921504606846976) (hm : m ≤ 1152921504606846976) (w : World) (hl : leadsP op = false) (h : op = 4) :
    Calls Try.prog 26 #[.agg #[.slice ia n ic, .slice pa m pc], .agg #[.int .i64 op, .int .i64 a, .int .i64 b, .string s]] w fun e w' => e = .returned (.bool (decide (0 ≤ a ∧ a ≤ 1) && ((b == 0) && conShape s a true))) ∧ Below w.heap.size w w' := by
  have cw := fun W => Wrap_c a ha W
  have cl := fun x W => l10Place_c ia pa n m ic pc hn x W
  have cp := fun W => l04Prim_c s W
  have cs := fun W => l04ConOk_c s a true hs W
  have hg : givenOk s = (s.toList == [112, 114, 105, 110, 116] || (s.toList == [115, 97, 121] || (s.toList == [114, 101, 97, 100] || s.toList == [115, 105, 122, 101]))) := rfl
  subst h
  clear cw cp hg hl cl
  generalize conShape s a true = g4 at *
  by_cases h0 : a = 0 <;> by_cases h1 : a = 1 <;> cases e2 : (b == 0) <;> cases g4
  all_goals
    first | (have e1 := decide_eq_true (show 0 ≤ a ∧ a ≤ 1 by omega)) | (have e1 := decide_eq_false (show ¬ (0 ≤ a ∧ a ≤ 1) by omega))
    rw [e1]
    have d0 : (a == 0) = decide (a = 0) := rfl
    have d1 : (a == 1) = decide (a = 1) := rfl
    first | rw [decide_eq_true h0] at d0 | rw [decide_eq_false h0] at d0
    first | rw [decide_eq_true h1] at d1 | rw [decide_eq_false h1] at d1
    clear h0 h1 e1
    go_enter Try.func26, Try.ntmps26
    go_wp2_with (first | (go_at_call 54; ((with_reducible refine (cs _).mono ?_); rintro e w1 ⟨rfl, rfl⟩)))
    all_goals try go_returns
    all_goals try refine ⟨?_, ?_⟩
    all_goals try (first | assumption | (go_grown; done))
    all_goals try rfl
    all_goals ((try simp only [decide_eq_true_eq, decide_eq_false_iff_not] at d0 d1); first | (exfalso; omega) | (simp; omega) | (simp_all; done))

set_option maxRecDepth 100000 in
set_option maxHeartbeats 8000000 in
theorem l10Ins_5 (op a b : Int) (s : ByteArray) (hs : StrOk s) (ha : I64 a) (hb : I64 b) (ho : I64 op) (ia pa : Option Addr) (n m ic pc : Nat) (hn : n ≤ 1152921504606846976) (hm : m ≤ 1152921504606846976) (w : World) (hl : leadsP op = false) (h : op = 2) :
    Calls Try.prog 26 #[.agg #[.slice ia n ic, .slice pa m pc], .agg #[.int .i64 op, .int .i64 a, .int .i64 b, .string s]] w fun e w' => e = .returned (.bool ((a == 0) && (b == 0))) ∧ Below w.heap.size w w' := by
  have cw := fun W => Wrap_c a ha W
  have cl := fun x W => l10Place_c ia pa n m ic pc hn x W
  have cp := fun W => l04Prim_c s W
  have cs := fun W => l04ConOk_c s a true hs W
  have hg : givenOk s = (s.toList == [112, 114, 105, 110, 116] || (s.toList == [115, 97, 121] || (s.toList == [114, 101, 97, 100] || s.toList == [115, 105, 122, 101]))) := rfl
  subst h
  clear cw cp cs hg hl cl
  cases e1 : (a == 0) <;> cases e2 : (b == 0) <;> cases e3 : s.toList.isEmpty
  all_goals
    go_enter Try.func26, Try.ntmps26
    go_wp2_with (first | fail)
    all_goals try go_returns
    all_goals try refine ⟨?_, ?_⟩
    all_goals try (first | assumption | (go_grown; done))
    all_goals try rfl
    all_goals ((try simp only [decide_eq_true_eq, decide_eq_false_iff_not] at d0 d1); first | (exfalso; omega) | (simp; omega) | (simp_all; done))

set_option maxRecDepth 100000 in
set_option maxHeartbeats 8000000 in
theorem l10Ins_6 (op a b : Int) (s : ByteArray) (hs : StrOk s) (ha : I64 a) (hb : I64 b) (ho : I64 op) (ia pa : Option Addr) (n m ic pc : Nat) (hn : n ≤ 1152921504606846976) (hm : m ≤ 1152921504606846976) (w : World) (hl : leadsP op = false) (h : op = 7) :
    Calls Try.prog 26 #[.agg #[.slice ia n ic, .slice pa m pc], .agg #[.int .i64 op, .int .i64 a, .int .i64 b, .string s]] w fun e w' => e = .returned (.bool ((a == 0) && ((b == 0) && givenOk s))) ∧ Below w.heap.size w w' := by
  have cw := fun W => Wrap_c a ha W
  have cl := fun x W => l10Place_c ia pa n m ic pc hn x W
  have cp := fun W => l04Prim_c s W
  have cs := fun W => l04ConOk_c s a true hs W
  have hg : givenOk s = (s.toList == [112, 114, 105, 110, 116] || (s.toList == [115, 97, 121] || (s.toList == [114, 101, 97, 100] || s.toList == [115, 105, 122, 101]))) := rfl
  subst h
  clear cw cp cs hl cl
  rw [hg]
  clear hg
  cases e1 : (a == 0) <;> cases e2 : (b == 0) <;> cases g1 : (s.toList == [112, 114, 105, 110, 116]) <;> cases g2 : (s.toList == [115, 97, 121]) <;> cases g3 : (s.toList == [114, 101, 97, 100]) <;> cases g4 : (s.toList == [115, 105, 122, 101])
  all_goals
    go_enter Try.func26, Try.ntmps26
    go_wp2_with (first | fail)
    all_goals try go_returns
    all_goals try refine ⟨?_, ?_⟩
    all_goals try (first | assumption | (go_grown; done))
    all_goals try rfl
    all_goals ((try simp only [decide_eq_true_eq, decide_eq_false_iff_not] at d0 d1); first | (exfalso; omega) | (simp; omega) | (simp_all; done))

end Go.Proofs.Ytklfepnokidnaaa

/- When an instruction is right: the reference's test, the other kinds. -/
namespace Go.Proofs.Ytklfepnokidnaaa
open Go.RowKit
set_option linter.unusedVariables false
set_option linter.unusedSimpArgs false
attribute [local go_sem] Ext.cell

set_option maxRecDepth 100000 in
set_option maxHeartbeats 8000000 in
theorem l10Ins_7 (op a b : Int) (s : ByteArray) (hs : StrOk s) (ha : I64 a) (hb : I64 b) (ho : I64 op) (ia pa : Option Addr) (n m ic pc : Nat) (hn : n ≤ 1152921504606846976) (hm : m ≤ 1152921504606846976) (w : World) (hl : leadsP op = false) (h : op = 16) :
    Calls Try.prog 26 #[.agg #[.slice ia n ic, .slice pa m pc], .agg #[.int .i64 op, .int .i64 a, .int .i64 b, .string s]] w fun e w' => e = .returned (.bool ((a == 0) && ((b == 0) && primOk s))) ∧ Below w.heap.size w w' := by
  have cw := fun W => Wrap_c a ha W
  have cl := fun x W => l10Place_c ia pa n m ic pc hn x W
  have cp := fun W => l04Prim_c s W
  have cs := fun W => l04ConOk_c s a true hs W
  have hg : givenOk s = (s.toList == [112, 114, 105, 110, 116] || (s.toList == [115, 97, 121] || (s.toList == [114, 101, 97, 100] || s.toList == [115, 105, 122, 101]))) := rfl
  subst h
  clear cw cs hg hl cl
  generalize primOk s = g16 at *
  cases e1 : (a == 0) <;> cases e2 : (b == 0) <;> cases g16
  all_goals
    go_enter Try.func26, Try.ntmps26
    go_wp2_with (first | (go_at_call 56; ((with_reducible refine (cp _).mono ?_); rintro e w1 ⟨rfl, hb⟩; have hw : Below w.heap.size w w1 := Below.trans (by go_grown) (hb.mono (by go_grown)); obtain ⟨hc, hf⟩ := bcell hb; have hz := hw.size; have hz1 := hb.size; have hs0 : w.heap.size < w1.heap.size := (by have h := hz1; (try simp only [World.size_alloc, World.size_setCell, World.size_drew] at h); omega); have hs1 : w.heap.size + 1 < w1.heap.size := (by have h := hz1; (try simp only [World.size_alloc, World.size_setCell, World.size_drew] at h); omega); clear hb)))
    all_goals first | (go_returns; refine ⟨?_, ?_⟩; rotate_left; (first | assumption | (go_grown; done)); (first | rfl | (simp; done) | (simp_all; done))) | (exfalso; simp only [decide_eq_true_eq, decide_eq_false_iff_not] at d0 d1; omega)

set_option maxRecDepth 100000 in
set_option maxHeartbeats 8000000 in
theorem l10Ins_8 (op a b : Int) (s : ByteArray) (hs : StrOk s) (ha : I64 a) (hb : I64 b) (ho : I64 op) (ia pa : Option Addr) (n m ic pc : Nat) (hn : n ≤ 1152921504606846976) (hm : m ≤ 1152921504606846976) (w : World) (hl : leadsP op = false) (h20 : (op == 20) = false) (h6 : (op == 6) = false) (h15 : (op == 15) = false) (h1 : (op == 1) = false) (h4 : (op == 4) = false) (h2 : (op == 2) = false) (h7 : (op == 7) = false) (h16 : (op == 16) = false) :
    Calls Try.prog 26 #[.agg #[.slice ia n ic, .slice pa m pc], .agg #[.int .i64 op, .int .i64 a, .int .i64 b, .string s]] w fun e w' => e = .returned (.bool (decide (1 ≤ op ∧ op ≤ 25) && ((a == 0) && ((b == 0) && s.toList.isEmpty)))) ∧ Below w.heap.size w w' := by
  have cw := fun W => Wrap_c a ha W
  have cl := fun x W => l10Place_c ia pa n m ic pc hn x W
  have cp := fun W => l04Prim_c s W
  have cs := fun W => l04ConOk_c s a true hs W
  have hg : givenOk s = (s.toList == [112, 114, 105, 110, 116] || (s.toList == [115, 97, 121] || (s.toList == [114, 101, 97, 100] || s.toList == [115, 105, 122, 101]))) := rfl
  clear cw cp cs hg cl
  obtain ⟨h8, h9, h12, h13, h18⟩ := leadsP_not hl
  clear hl
  by_cases hlo : 1 ≤ op <;> by_cases hhi : op ≤ 25
  rotate_right
  · exfalso; omega
  all_goals cases e2 : (a == 0) <;> cases e3 : (b == 0) <;> cases e4 : s.toList.isEmpty
  all_goals
    first | (have e1 := decide_eq_true (show 1 ≤ op ∧ op ≤ 25 by omega)) | (have e1 := decide_eq_false (show ¬ (1 ≤ op ∧ op ≤ 25) by omega))
    rw [e1]
    first | (have d0 := decide_eq_true hlo) | (have d0 := decide_eq_false hlo)
    first | (have d1 := decide_eq_true hhi) | (have d1 := decide_eq_false hhi)
    clear hlo hhi e1
    go_enter Try.func26, Try.ntmps26
    go_wp2_with (first | fail)
    all_goals go_returns
    all_goals refine ⟨?_, ?_⟩
    all_goals try (go_grown; done)
    all_goals try rfl
    all_goals (simp only [decide_eq_true_eq, decide_eq_false_iff_not] at d0 d1; first | (exfalso; omega) | (simp; omega) | (simp_all; done))

end Go.Proofs.Ytklfepnokidnaaa

/- When an instruction is right: the reference's test, all kinds. -/
namespace Go.Proofs.Ytklfepnokidnaaa
open Go.RowKit
set_option linter.unusedVariables false
set_option linter.unusedSimpArgs false
attribute [local go_sem] Ext.cell

theorem l10InsOk_flat (op a b : Int) (s : ByteArray) (hs : StrOk s) (ha : I64 a) (hb : I64 b) (ho : I64 op) (ia pa : Option Addr) (n m ic pc : Nat) (hn : n ≤ 1152921504606846976) (hm : m ≤ 1152921504606846976) (w : World) :
    Calls Try.prog 26 #[.agg #[.slice ia n ic, .slice pa m pc], .agg #[.int .i64 op, .int .i64 a, .int .i64 b, .string s]] w fun e w' => e = .returned (.bool (insOkP n m ⟨op, a, b, s⟩)) ∧ Below w.heap.size w w' := by
  have hC := insOk_kind n m op a b s
  generalize insOkP n m ⟨op, a, b, s⟩ = q at hC ⊢
  rcases hC with ⟨hl, rfl⟩ | ⟨hl, ⟨h, rfl⟩ | ⟨h, rfl⟩ | ⟨h, rfl⟩ | ⟨h, rfl⟩ | ⟨h, rfl⟩ | ⟨h, rfl⟩ | ⟨h, rfl⟩ | ⟨h20, h6, h15, h1, h4, h2, h7, h16, rfl⟩⟩
  · exact l10Ins_0 op a b s hs ha hb ho ia pa n m ic pc hn hm w hl
  · exact l10Ins_1 op a b s hs ha hb ho ia pa n m ic pc hn hm w hl h
  · exact l10Ins_2 op a b s hs ha hb ho ia pa n m ic pc hn hm w hl h
  · exact l10Ins_3 op a b s hs ha hb ho ia pa n m ic pc hn hm w hl h
  · exact l10Ins_4 op a b s hs ha hb ho ia pa n m ic pc hn hm w hl h
  · exact l10Ins_5 op a b s hs ha hb ho ia pa n m ic pc hn hm w hl h
  · exact l10Ins_6 op a b s hs ha hb ho ia pa n m ic pc hn hm w hl h
  · exact l10Ins_7 op a b s hs ha hb ho ia pa n m ic pc hn hm w hl h
  · exact l10Ins_8 op a b s hs ha hb ho ia pa n m ic pc hn hm w hl h20 h6 h15 h1 h4 h2 h7 h16

end Go.Proofs.Ytklfepnokidnaaa
