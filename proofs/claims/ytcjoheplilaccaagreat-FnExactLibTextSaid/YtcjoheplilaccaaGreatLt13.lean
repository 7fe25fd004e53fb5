/- Parts of the proof, merged: Pr2, Pr3, Pr5. -/
import Derived.Test.YtcjoheplilaccaaGreatLt12
/- The program's parser: what starts what; no types. -/
namespace Go.Proofs.YtcjoheplilaccaaGreat
open Go.RowKit
set_option linter.unusedVariables false
set_option linter.unusedSimpArgs false
attribute [local go_sem] Ext.cell

theorem eqS_lit {a : ByteArray} {l : List UInt8} (q : ByteArray) (h : q.data.toList = l) : (a.toList == l) = eqS a q := by subst h; unfold eqS; rw [ByteArray.toList_eq]
theorem signs_ok : (∀ y ∈ patSigns, StrOk y) ∧ (∀ y ∈ atomSigns, StrOk y) ∧ (∀ y ∈ exprSigns, StrOk y) ∧ (∀ y ∈ cmpSigns, StrOk y) ∧ (∀ y ∈ sumSigns, StrOk y) ∧ (∀ y ∈ mulSigns, StrOk y) := by
  refine ⟨?_, ?_, ?_, ?_, ?_, ?_⟩ <;> (intro y hy; simp [patSigns, atomSigns, exprSigns, cmpSigns, sumSigns, mulSigns] at hy; rcases hy with rfl | rfl | rfl | rfl | rfl | rfl | rfl | rfl | rfl <;> (unfold StrOk; decide)) 
/-- A list of signs as a literal lays it. -/
theorem has_c (xs : List ByteArray) (hok : ∀ y ∈ xs, StrOk y) (v : ByteArray) (g : Nat) (w : World) (h : RowAt w g 0 (xs.map Value.string)) (n : Nat) (hn : n = xs.length) (hm : n ≤ 100) :
    Calls Tryz.prog 18 #[.slice (some ⟨g, 0, none⟩) n n, .string v] w fun e w' => e = .returned (.bool (anyS xs v)) ∧ Below w.heap.size w w' := by
  subst hn
  rw [← anyS_list]
  exact containsS_c xs v g _ w (row_strs h hok xs.length (Nat.le_refl _) (by omega))

set_option maxRecDepth 100000 in
set_option maxHeartbeats 4000000 in
theorem startsPat_c (t : GTok) (w : World) : Calls Tryz.prog 100 #[.agg (tokRow t).toArray] w fun e w' => e = .returned (.bool (startsPatP t)) ∧ Below w.heap.size w w' := by
  have cS := fun W => SignOf_c t W
  have hk : startsPatP t = (decide (t.kind = 3 ∨ t.kind = 1 ∨ t.kind = 4) || anyS patSigns (sgn t)) := rfl
  rw [hk]
  clear hk
  generalize sgn t = sg at *
  obtain ⟨kd, nn, s0, a⟩ := t
  replace cS : ∀ W, Calls Tryz.prog 53 #[.agg #[.int .i64 kd, .int .i64 nn, .string s0, .int .i64 a]] W fun e w' => e = .returned (.string sg) ∧ Below W.heap.size W w' := cS
  replace cS := Lib.hid cS
  show Calls Tryz.prog 100 #[.agg #[.int .i64 kd, .int .i64 nn, .string s0, .int .i64 a]] w fun e w' => e = .returned (.bool (decide (kd = 3 ∨ kd = 1 ∨ kd = 4) || anyS patSigns sg)) ∧ Below w.heap.size w w'
  by_cases h3 : kd = 3 ∨ kd = 1 ∨ kd = 4
  · rw [decide_eq_true h3, Bool.true_or]
    rcases h3 with rfl | rfl | rfl
    all_goals
      go_enter Tryz.func100, Tryz.ntmps100
      go_wp2_with fail
      go_returns
      exact ⟨rfl, by go_grown⟩
  · rw [decide_eq_false h3, Bool.false_or]
    have d1 : (kd == 3) = false := beq_eq_false_iff_ne.2 fun h => h3 (.inl h)
    have d2 : (kd == 1) = false := beq_eq_false_iff_ne.2 fun h => h3 (.inr (.inl h))
    have d3 : (kd == 4) = false := beq_eq_false_iff_ne.2 fun h => h3 (.inr (.inr h))
    have cH := fun g W h => has_c patSigns signs_ok.1 sg g W h 6 rfl (by omega)
    replace cH := Lib.hid cH
    clear h3
    go_enter Tryz.func100, Tryz.ntmps100
    go_upto_region 1 with fail
    have B : RowAt (w.alloc (.cells #[.int .i64 kd, .int .i64 nn, .string s0, .int .i64 a] 75)) (w.heap.size) 0 [.int .i64 kd, .int .i64 nn, .string s0, .int .i64 a] := RowAt.box w #[.int .i64 kd, .int .i64 nn, .string s0, .int .i64 a] 75
    have hw : Below w.heap.size w (w.alloc (.cells #[.int .i64 kd, .int .i64 nn, .string s0, .int .i64 a] 75)) := by go_grown
    generalize (w.alloc (.cells #[.int .i64 kd, .int .i64 nn, .string s0, .int .i64 a] 75)) = w0 at *
    obtain ⟨b_0, b_1, b_2, b_3⟩ := B.box4; have hsB := World.block_lt_of_cell? _ _ b_0; dsimp only at hsB
    go_wp2_with (first
      | (go_at_call 53; (with_reducible refine (cS.out _).mono ?_); rintro e w2 ⟨rfl, hb2⟩; have K2 : RowAt w2 w0.heap.size 0 (patSigns.map Value.string) := (RowAt.box w0 #[.string ⟨#[95]⟩, .string ⟨#[45]⟩, .string ⟨#[116, 114, 117, 101]⟩, .string ⟨#[102, 97, 108, 115, 101]⟩, .string ⟨#[40]⟩, .string ⟨#[91]⟩] 9).below hb2; have hw2 : Below w.heap.size w w2 := (hw.trans (show Below w.heap.size w0 _ from Below.mono (by go_grown) hw.size)).trans (hb2.mono (by have := hw.size; simp; omega)))
      | (go_at_call 18; (with_reducible refine (cH.out _ _ K2).mono ?_); rintro e w3 ⟨rfl, hb3⟩))
    go_returns
    exact ⟨rfl, hw2.trans (hb3.mono hw2.size)⟩
set_option maxRecDepth 100000 in
set_option maxHeartbeats 4000000 in
theorem startsAtom_c (t : GTok) (w : World) : Calls Tryz.prog 80 #[.agg (tokRow t).toArray] w fun e w' => e = .returned (.bool (startsAtomP t)) ∧ Below w.heap.size w w' := by
  have cS := fun W => SignOf_c t W
  have hk : startsAtomP t = (decide (t.kind = 1 ∨ t.kind = 2 ∨ t.kind = 3 ∨ t.kind = 4) || anyS atomSigns (sgn t)) := rfl
  rw [hk]
  clear hk
  generalize sgn t = sg at *
  obtain ⟨kd, nn, s0, a⟩ := t
  replace cS : ∀ W, Calls Tryz.prog 53 #[.agg #[.int .i64 kd, .int .i64 nn, .string s0, .int .i64 a]] W fun e w' => e = .returned (.string sg) ∧ Below W.heap.size W w' := cS
  replace cS := Lib.hid cS
  show Calls Tryz.prog 80 #[.agg #[.int .i64 kd, .int .i64 nn, .string s0, .int .i64 a]] w fun e w' => e = .returned (.bool (decide (kd = 1 ∨ kd = 2 ∨ kd = 3 ∨ kd = 4) || anyS atomSigns sg)) ∧ Below w.heap.size w w'
  by_cases h3 : kd = 1 ∨ kd = 2 ∨ kd = 3 ∨ kd = 4
  · rw [decide_eq_true h3, Bool.true_or]
    rcases h3 with rfl | rfl | rfl | rfl
    all_goals
      go_enter Tryz.func80, Tryz.ntmps80
      go_wp2_with fail
      go_returns
      exact ⟨rfl, by go_grown⟩
  · rw [decide_eq_false h3, Bool.false_or]
    have d1 : (kd == 1) = false := beq_eq_false_iff_ne.2 fun h => h3 (.inl h)
    have d2 : (kd == 2) = false := beq_eq_false_iff_ne.2 fun h => h3 (.inr (.inl h))
    have d3 : (kd == 3) = false := beq_eq_false_iff_ne.2 fun h => h3 (.inr (.inr (.inl h)))
    have d4 : (kd == 4) = false := beq_eq_false_iff_ne.2 fun h => h3 (.inr (.inr (.inr h)))
    have cH := fun g W h => has_c atomSigns signs_ok.2.1 sg g W h 4 rfl (by omega)
    replace cH := Lib.hid cH
    clear h3
    go_enter Tryz.func80, Tryz.ntmps80
    go_upto_region 1 with fail
    have B : RowAt (w.alloc (.cells #[.int .i64 kd, .int .i64 nn, .string s0, .int .i64 a] 75)) (w.heap.size) 0 [.int .i64 kd, .int .i64 nn, .string s0, .int .i64 a] := RowAt.box w #[.int .i64 kd, .int .i64 nn, .string s0, .int .i64 a] 75
    have hw : Below w.heap.size w (w.alloc (.cells #[.int .i64 kd, .int .i64 nn, .string s0, .int .i64 a] 75)) := by go_grown
    generalize (w.alloc (.cells #[.int .i64 kd, .int .i64 nn, .string s0, .int .i64 a] 75)) = w0 at *
    obtain ⟨b_0, b_1, b_2, b_3⟩ := B.box4; have hsB := World.block_lt_of_cell? _ _ b_0; dsimp only at hsB
    go_wp2_with (first
      | (go_at_call 53; (with_reducible refine (cS.out _).mono ?_); rintro e w2 ⟨rfl, hb2⟩; have K2 : RowAt w2 w0.heap.size 0 (atomSigns.map Value.string) := (RowAt.box w0 #[.string ⟨#[116, 114, 117, 101]⟩, .string ⟨#[102, 97, 108, 115, 101]⟩, .string ⟨#[40]⟩, .string ⟨#[91]⟩] 9).below hb2; have hw2 : Below w.heap.size w w2 := (hw.trans (show Below w.heap.size w0 _ from Below.mono (by go_grown) hw.size)).trans (hb2.mono (by have := hw.size; simp; omega)))
      | (go_at_call 18; (with_reducible refine (cH.out _ _ K2).mono ?_); rintro e w3 ⟨rfl, hb3⟩))
    go_returns
    exact ⟨rfl, hw2.trans (hb3.mono hw2.size)⟩
set_option maxRecDepth 100000 in
set_option maxHeartbeats 4000000 in
theorem startsExpr_c (t : GTok) (w : World) : Calls Tryz.prog 52 #[.agg (tokRow t).toArray] w fun e w' => e = .returned (.bool (startsExprP t)) ∧ Below w.heap.size w w' := by
  have cS := fun W => SignOf_c t W
  have cA := fun W => startsAtom_c t W
  have hk : startsExprP t = (startsAtomP t || anyS exprSigns (sgn t)) := rfl
  rw [hk]
  clear hk
  generalize sgn t = sg at *
  generalize startsAtomP t = sa at *
  obtain ⟨kd, nn, s0, a⟩ := t
  replace cS : ∀ W, Calls Tryz.prog 53 #[.agg #[.int .i64 kd, .int .i64 nn, .string s0, .int .i64 a]] W fun e w' => e = .returned (.string sg) ∧ Below W.heap.size W w' := cS
  replace cA : ∀ W, Calls Tryz.prog 80 #[.agg #[.int .i64 kd, .int .i64 nn, .string s0, .int .i64 a]] W fun e w' => e = .returned (.bool sa) ∧ Below W.heap.size W w' := cA
  have cH := fun g W h => has_c exprSigns signs_ok.2.2.1 sg g W h 9 rfl (by omega)
  replace cH := Lib.hid cH; replace cS := Lib.hid cS; replace cA := Lib.hid cA
  show Calls Tryz.prog 52 #[.agg #[.int .i64 kd, .int .i64 nn, .string s0, .int .i64 a]] w fun e w' => e = .returned (.bool (sa || anyS exprSigns sg)) ∧ Below w.heap.size w w'
  cases sa
  · rw [Bool.false_or]
    go_enter Tryz.func52, Tryz.ntmps52
    go_upto_region 1 with fail
    have B : RowAt (w.alloc (.cells #[.int .i64 kd, .int .i64 nn, .string s0, .int .i64 a] 75)) (w.heap.size) 0 [.int .i64 kd, .int .i64 nn, .string s0, .int .i64 a] := RowAt.box w #[.int .i64 kd, .int .i64 nn, .string s0, .int .i64 a] 75
    have hw : Below w.heap.size w (w.alloc (.cells #[.int .i64 kd, .int .i64 nn, .string s0, .int .i64 a] 75)) := by go_grown
    generalize (w.alloc (.cells #[.int .i64 kd, .int .i64 nn, .string s0, .int .i64 a] 75)) = w0 at *
    obtain ⟨b_0, b_1, b_2, b_3⟩ := B.box4; have hsB := World.block_lt_of_cell? _ _ b_0; dsimp only at hsB
    go_wp2_with (first
      | (go_at_call 80; (with_reducible refine (cA.out _).mono ?_); rintro e w1 ⟨rfl, hb1⟩; have hw1 := hw.trans (hb1.mono hw.size); have B1 := B.below hb1; clear b_0 b_1 b_2 b_3 hsB; obtain ⟨b1_0, b1_1, b1_2, b1_3⟩ := B1.box4; have hsB1 := World.block_lt_of_cell? _ _ b1_0; dsimp only at hsB1)
      | (go_at_call 53; (with_reducible refine (cS.out _).mono ?_); rintro e w2 ⟨rfl, hb2⟩; have K2 : RowAt w2 w1.heap.size 0 (exprSigns.map Value.string) := (RowAt.box w1 #[.string ⟨#[102, 117, 110]⟩, .string ⟨#[108, 101, 116]⟩, .string ⟨#[105, 102]⟩, .string ⟨#[109, 97, 116, 99, 104]⟩, .string ⟨#[116, 114, 121]⟩, .string ⟨#[114, 97, 105, 115, 101]⟩, .string ⟨#[114, 101, 102]⟩, .string ⟨#[33]⟩, .string ⟨#[45]⟩] 9).below hb2; have hw2 : Below w.heap.size w w2 := (hw1.trans (show Below w.heap.size w1 _ from Below.mono (by go_grown) hw1.size)).trans (hb2.mono (by have := hw1.size; simp; omega)))
      | (go_at_call 18; (with_reducible refine (cH.out _ _ K2).mono ?_); rintro e w3 ⟨rfl, hb3⟩))
    go_returns
    exact ⟨rfl, hw2.trans (hb3.mono hw2.size)⟩
  · rw [Bool.true_or]
    go_enter Tryz.func52, Tryz.ntmps52
    go_upto_region 1 with fail
    have B : RowAt (w.alloc (.cells #[.int .i64 kd, .int .i64 nn, .string s0, .int .i64 a] 75)) (w.heap.size) 0 [.int .i64 kd, .int .i64 nn, .string s0, .int .i64 a] := RowAt.box w #[.int .i64 kd, .int .i64 nn, .string s0, .int .i64 a] 75
    have hw : Below w.heap.size w (w.alloc (.cells #[.int .i64 kd, .int .i64 nn, .string s0, .int .i64 a] 75)) := by go_grown
    generalize (w.alloc (.cells #[.int .i64 kd, .int .i64 nn, .string s0, .int .i64 a] 75)) = w0 at *
    obtain ⟨b_0, b_1, b_2, b_3⟩ := B.box4; have hsB := World.block_lt_of_cell? _ _ b_0; dsimp only at hsB
    go_wp2_with (go_at_call 80; (with_reducible refine (cA.out _).mono ?_); rintro e w1 ⟨rfl, hb1⟩; have hw1 := hw.trans (hb1.mono hw.size))
    go_returns
    exact ⟨rfl, by go_grown⟩

set_option maxRecDepth 100000 in
set_option maxHeartbeats 4000000 in
theorem types_none {C : PC} {b i : Nat} {w : World} {nv : Value} {ns : List ByteArray} (P : PS C b w i nv ns) (h : eqS (sgn (tokAt C.L C.E i)) qType = false) :
    Calls Tryz.prog 34 #[.pointer (some ⟨b, 0, none⟩)] w fun e w' => (∃ a, e = .returned (.slice a 0 0)) ∧ Below w.heap.size w w' := by
  have cS := fun W (hW : Below w.heap.size w W) => sign_c (P.below hW)
  have d1 : ((sgn (tokAt C.L C.E i)).toList == [116, 121, 112, 101]) = false := (eqS_lit qType rfl).trans h
  generalize sgn (tokAt C.L C.E i) = sg at *
  replace cS := Lib.hid cS
  go_enter Tryz.func34, Tryz.ntmps34
  go_wp2_with fail
  go_loopw [3] (fun vv wr => (∃ a, vv = .slice a 0 0) ∧ Below w.heap.size w wr) (fun _ _ => 0)
  case atStart => exact ⟨⟨_, rfl⟩, by go_grown⟩
  case round =>
    obtain ⟨⟨a, rfl⟩, hw0⟩ := hrel
    go_wp2_with (go_at_call 46; (with_reducible refine (cS.out _ hw0).mono ?_); rintro e w2 ⟨rfl, hb2⟩)
    go_returns
    exact ⟨⟨_, rfl⟩, hw0.trans (hb2.mono hw0.size)⟩
end Go.Proofs.YtcjoheplilaccaaGreat

/- The program's parser: what is claimed of its functions; how a node is made. -/
namespace Go.Proofs.YtcjoheplilaccaaGreat
open Go.RowKit
set_option linter.unusedVariables false
set_option linter.unusedSimpArgs false
attribute [local go_sem] Ext.cell

def EC (C : PC) (b : Nat) (fn : Nat) (r : Nat → Nat → List ByteArray → Option (POut ExT)) : Prop :=
  ∀ deep i ns o w nv, r deep i ns = some o → PS C b w i nv ns → Calls Tryz.prog fn #[.pointer (some ⟨b, 0, none⟩), .int .i64 (deep : Int)] w (EPost C b w nv o)
def QC (C : PC) (b : Nat) (fn : Nat) (r : Nat → Nat → List ByteArray → Option (POut PxT)) : Prop :=
  ∀ deep i ns o w nv, r deep i ns = some o → PS C b w i nv ns → Calls Tryz.prog fn #[.pointer (some ⟨b, 0, none⟩), .int .i64 (deep : Int)] w (PPost C b w nv o)
structure Good (C : PC) (b : Nat) (R : PFs) : Prop where
  expr : EC C b 35 R.expr
  set : EC C b 56 R.set
  listed : EC C b 102 R.listed
  compared : EC C b 83 R.compared
  unary : EC C b 129 R.unary
  app : EC C b 131 R.app
  atom : EC C b 133 R.atom
  chain : ∀ level deep i ns o w nv, R.chain deep level i ns = some o → level ≤ 2 → PS C b w i nv ns → Calls Tryz.prog 119 #[.pointer (some ⟨b, 0, none⟩), .int .i64 (deep : Int), .int .i64 (level : Int)] w (EPost C b w nv o)
  mtch : ∀ deep (a : Int) i ns o w nv, I64 a → R.mtch deep a i ns = some o → PS C b w i nv ns → Calls Tryz.prog 55 #[.pointer (some ⟨b, 0, none⟩), .int .i64 (deep : Int), .int .i64 a] w (EPost C b w nv o)
  pat : QC C b 81 R.pat
  patAtom : QC C b 101 R.patAtom
  elim : ∀ deep i ns o, R.expr deep i ns = some o → deep ≤ 100
  plim : ∀ deep i ns o, R.pat deep i ns = some o → deep ≤ 100
theorem RowAt.pf {b q : Nat} {w w' : World} {nv nv' : Value} {r : List Value} {o : Nat} (h : RowAt w q o r) (f : PF b w nv w' nv') (hq : q ≠ b) (hn : nv.ownBlock ≠ some q) : RowAt w' q o r :=
  h.kept f.kept fun e => by rcases e with e | e; exact hq e; exact hn e
theorem Wr.pf {b q : Nat} {w w' : World} {nv nv' : Value} {o n : Nat} (h : Wr w q o n) (f : PF b w nv w' nv') (hq : q ≠ b) (hn : nv.ownBlock ≠ some q) : Wr w' q o n :=
  h.kept f.kept fun e => by rcases e with e | e; exact hq e; exact hn e
/-- A node without children, made at the end. -/
theorem fin_leaf {C : PC} {b i : Nat} {w w4 W : World} {nv nv' : Value} {ns : List ByteArray} (P : PS C b w4 i nv' ns) (F : PF b w nv w4 nv') {kd at_ nn : Int} {s : ByteArray} (hwf : (ExT.mk kd at_ nn s [] []).wf)
    (hW : W = w4.alloc (.cells #[.int .i64 kd, .int .i64 at_, .int .i64 nn, .string s, .slice none 0 0, .slice none 0 0] 95)) :
    PS C b W i nv' ns ∧ PF b w nv W nv' ∧ TR w.heap.size nv' W (.pointer (some ⟨w4.heap.size, 0, none⟩)) (exN kd at_ nn s []) := by
  subst hW
  have hb : Below w4.heap.size w4 (w4.alloc (.cells #[.int .i64 kd, .int .i64 at_, .int .i64 nn, .string s, .slice none 0 0, .slice none 0 0] 95)) := by go_grown
  exact ⟨P.below hb, F.trans (PF.of nv' hb (Nat.le_of_lt P.lt)), TR.leaf ⟨F.size, P.fresh (Nat.le_refl _)⟩ hwf (Nat.zero_le _) (RowAt.box w4 #[_, _, _, _, _, _] _)⟩
/-- A node over children that were read, made at the end. -/
theorem fin_node {C : PC} {b i n : Nat} {w w4 W : World} {nv nv' : Value} {ns : List ByteArray} (P : PS C b w4 i nv' ns) (F : PF b w nv w4 nv') {kd at_ nn : Int} {s : ByteArray} {vs : List Value} {ts : List ExT} (hwf : (ExT.mk kd at_ nn s ts []).wf)
    (hn : n = ts.length) (hl : vs.length = ts.length) (hm : n ≤ 100) (hk : ∀ (i : Nat) p t, vs[i]? = some p → ts[i]? = some t → TR w.heap.size nv' w4 p t)
    (hW : W = (w4.alloc (.cells vs.toArray 60)).alloc (.cells #[.int .i64 kd, .int .i64 at_, .int .i64 nn, .string s, .slice (some ⟨w4.heap.size, 0, none⟩) n n, .slice none 0 0] 95)) :
    PS C b W i nv' ns ∧ PF b w nv W nv' ∧ TR w.heap.size nv' W (.pointer (some ⟨w4.heap.size + 1, 0, none⟩)) (exN kd at_ nn s ts) := by
  subst hn
  have h1 := RowAt.box w4 vs.toArray 60
  have h2 := RowAt.box (w4.alloc (.cells vs.toArray 60)) #[.int .i64 kd, .int .i64 at_, .int .i64 nn, .string s, .slice (some ⟨w4.heap.size, 0, none⟩) ts.length ts.length, .slice none 0 0] 95
  simp only [World.size_alloc] at h2
  rw [← hW] at h2
  have hb2 : Below (w4.alloc (.cells vs.toArray 60)).heap.size (w4.alloc (.cells vs.toArray 60)) W := by rw [hW]; go_grown
  have h1' := h1.below hb2
  have hb : Below w4.heap.size w4 W := by rw [hW]; go_grown
  exact ⟨P.below hb, F.trans (PF.of nv' hb (Nat.le_of_lt P.lt)), TR.node ⟨Nat.le_trans F.size (Nat.le_succ _), P.fresh (Nat.le_succ _)⟩ ⟨F.size, P.fresh (Nat.le_refl _)⟩ hwf h2 (Nat.le_refl _) (by omega) h1' hl fun i p t hp ht => (hk i p t hp ht).below hb⟩
theorem hk1 {lo : Nat} {nv p1 : Value} {w : World} {t1 : ExT} (h1 : TR lo nv w p1 t1) : ∀ (i : Nat) p t, [p1][i]? = some p → [t1][i]? = some t → TR lo nv w p t := fun i p t hp ht => by
  match i, hp, ht with
  | 0, hp, ht => simp at hp ht; subst hp ht; exact h1
  | i + 1, hp, _ => simp at hp
theorem hk2 {lo : Nat} {nv p1 p2 : Value} {w : World} {t1 t2 : ExT} (h1 : TR lo nv w p1 t1) (h2 : TR lo nv w p2 t2) : ∀ (i : Nat) p t, [p1, p2][i]? = some p → [t1, t2][i]? = some t → TR lo nv w p t := fun i p t hp ht => by
  match i, hp, ht with
  | 0, hp, ht => simp at hp ht; subst hp ht; exact h1
  | 1, hp, ht => simp at hp ht; subst hp ht; exact h2
  | i + 2, hp, _ => simp at hp
theorem hk3 {lo : Nat} {nv p1 p2 p3 : Value} {w : World} {t1 t2 t3 : ExT} (h1 : TR lo nv w p1 t1) (h2 : TR lo nv w p2 t2) (h3 : TR lo nv w p3 t3) : ∀ (i : Nat) p t, [p1, p2, p3][i]? = some p → [t1, t2, t3][i]? = some t → TR lo nv w p t := fun i p t hp ht => by
  match i, hp, ht with
  | 0, hp, ht => simp at hp ht; subst hp ht; exact h1
  | 1, hp, ht => simp at hp ht; subst hp ht; exact h2
  | 2, hp, ht => simp at hp ht; subst hp ht; exact h3
  | i + 3, hp, _ => simp at hp
theorem atom_in {t : GTok} (h : startsAtomP t = true) : t.kind ≠ 0 := fun h0 => by
  unfold startsAtomP sgn at h
  rw [h0, if_neg (by decide)] at h
  exact absurd h (by decide)
theorem exw {k a n : Int} {s : ByteArray} {ks : List ExT} {ps : List GPat} (h1 : 0 ≤ k ∧ k ≤ 100) (h2 : I64 a) (h3 : I64 n) (h4 : StrOk s) : (ExT.mk k a n s ks ps).wf := ⟨⟨by show _ ≤ k; omega, by show k ≤ _; omega⟩, h2, h3, h4⟩
theorem z64 : I64 0 := ⟨by decide, by decide⟩
theorem bs_ok : StrOk (bs []) := by unfold StrOk; decide
theorem step_at {C : PC} {b i : Nat} {W : World} {nv : Value} {ns : List ByteArray} (P : PS C b W i nv ns) (hi : i < C.L.length) :
    PS C b (W.setCell ⟨b, 1, none⟩ (.int .i64 ((i : Int) + 1))) (i + 1) nv ns ∧ PF b W nv (W.setCell ⟨b, 1, none⟩ (.int .i64 ((i : Int) + 1))) nv := by
  have e : ((i + 1 : Nat) : Int) = (i : Int) + 1 := by omega
  rw [← e]
  exact ⟨P.setAt (by omega) (by omega), (PF.refl b W nv).set 1 _⟩
theorem PF.nt {b q : Nat} {w w' : World} {nv nv' : Value} (f : PF b w nv w' nv') (hn : nv.ownBlock ≠ some q) (hq : q < w.heap.size) : nv'.ownBlock ≠ some q := fun e => by
  rcases f.blk q e with h | h
  · exact hn h
  · omega
theorem neS_lit {a : ByteArray} {l : List UInt8} (q : ByteArray) (h : q.data.toList = l) : (a.toList != l) = !(eqS a q) := by rw [bne, eqS_lit q h]
theorem PF.near {b : Nat} {w w' w2 : World} {nv nv' : Value} (f : PF b w nv w' nv') (hb : Below w'.heap.size w' w2) (hl : b ≤ w'.heap.size) : PF b w nv w2 nv' := f.trans (PF.of nv' hb hl)
end Go.Proofs.YtcjoheplilaccaaGreat

/- The program's parser: application, signs ahead, sums and products, lists, comparisons. -/
namespace Go.Proofs.YtcjoheplilaccaaGreat
open Go.RowKit
set_option linter.unusedVariables false
set_option linter.unusedSimpArgs false
attribute [local go_sem] Ext.cell

/-- A post that is kept aside. -/
theorem epost_out {C : PC} {b : Nat} {w : World} {nv : Value} {o : POut ExT} {Q : Ending → World → Prop} (hQ : EPost C b w nv o = Q) : ∀ q nv' W, PS C b W o.i nv' o.ns ∧ PF b w nv W nv' ∧ TR w.heap.size nv' W (.pointer (some ⟨q, 0, none⟩)) o.t → Q (.returned (.pointer (some ⟨q, 0, none⟩))) W := fun q nv' W h => by rw [← hQ]; exact ⟨q, nv', rfl, h⟩

set_option maxRecDepth 100000 in
set_option maxHeartbeats 16000000 in
theorem unary_g {C : PC} {b : Nat} {R : PFs} (G : Good C b R) : EC C b 129 (unaryB C.L C.E R) := by
  intro deep i ns o w nv h P
  have cT := tok_c P
  have cS := fun W => SignOf_c (tokAt C.L C.E i) W
  unfold unaryB at h
  dsimp only at h
  generalize hsg : sgn (tokAt C.L C.E i) = sg at *
  obtain ⟨a1, ha1⟩ : ∃ q, eqS sg qRaise = q := ⟨_, rfl⟩
  obtain ⟨a2, ha2⟩ : ∃ q, eqS sg qRef = q := ⟨_, rfl⟩
  obtain ⟨a3, ha3⟩ : ∃ q, eqS sg qBang = q := ⟨_, rfl⟩
  obtain ⟨a4, ha4⟩ : ∃ q, eqS sg qMinus = q := ⟨_, rfl⟩
  rw [ha1, ha2, ha3, ha4] at h
  split at h
  · cases h
  rename_i hno
  obtain ⟨rfl, rfl, rfl, rfl⟩ : a1 = false ∧ a2 = false ∧ a3 = false ∧ a4 = false := by cases a1 <;> cases a2 <;> cases a3 <;> cases a4 <;> simp at hno ⊢
  have c1 : (sg.toList == [114, 97, 105, 115, 101]) = false := (eqS_lit qRaise rfl).trans ha1
  have c2 : (sg.toList == [114, 101, 102]) = false := (eqS_lit qRef rfl).trans ha2
  have c3 : (sg.toList == [33]) = false := (eqS_lit qBang rfl).trans ha3
  have c4 : (sg.toList == [45]) = false := (eqS_lit qMinus rfl).trans ha4
  generalize tokAt C.L C.E i = t at *
  obtain ⟨kd, nn, s0, a⟩ := t
  replace cT : Calls Tryz.prog 51 #[.pointer (some ⟨b, 0, none⟩)] w fun e w' => e = .returned (.agg #[.int .i64 kd, .int .i64 nn, .string s0, .int .i64 a]) ∧ Below w.heap.size w w' := cT
  replace cS : ∀ W, Calls Tryz.prog 53 #[.agg #[.int .i64 kd, .int .i64 nn, .string s0, .int .i64 a]] W fun e w' => e = .returned (.string sg) ∧ Below W.heap.size W w' := cS
  have hbl := P.lt
  have cX := fun W (hW : Below w.heap.size w W) => G.app deep i ns o W nv h (P.below hW)
  generalize hQ : EPost C b w nv o = Q
  have hpost := epost_out hQ
  clear hQ
  replace cT := Lib.hid cT; replace cS := Lib.hid cS; replace cX := Lib.hid cX; replace hpost := Lib.hid hpost; replace hsg := Lib.hid hsg; replace ha1 := Lib.hid ha1; replace ha2 := Lib.hid ha2; replace ha3 := Lib.hid ha3; replace ha4 := Lib.hid ha4
  clear h hno
  go_enter Tryz.func129, Tryz.ntmps129
  go_upto_region 2 with (go_at_call 51; (with_reducible refine (cT.out).mono ?_); rintro e w1 ⟨rfl, hb1⟩)
  obtain ⟨w2, hW2⟩ : ∃ W, W = w1.alloc (.cells #[.int .i64 kd, .int .i64 nn, .string s0, .int .i64 a] 75) := ⟨_, rfl⟩
  rw [← hW2]
  have hb2 : Below w1.heap.size w1 w2 := by rw [hW2]; go_grown
  have E2 : RowAt w2 w1.heap.size 0 [.int .i64 kd, .int .i64 nn, .string s0, .int .i64 a] := by rw [hW2]; exact RowAt.box w1 #[_, _, _, _] _
  have hw02 := hb1.trans (hb2.mono hb1.size)
  clear hW2
  obtain ⟨e2_0, e2_1, e2_2, e2_3⟩ := E2.box4; have hsE2 := World.block_lt_of_cell? _ _ e2_0; dsimp only at hsE2
  go_wp2_with (first
    | (go_at_call 53; (with_reducible refine (cS.out _).mono ?_); rintro e w3 ⟨rfl, hb3⟩; have hw03 := hw02.trans (hb3.mono hw02.size))
    | (go_at_call 131; (with_reducible refine (cX.out _ hw03).mono ?_); rintro e w4 ⟨q4, nv4, rfl, P4, F4, T4⟩))
  exact hpost.out q4 nv4 _ ⟨P4, (PF.of nv hw03 (Nat.le_of_lt hbl)).trans F4, T4.lower hw03.size⟩

set_option maxRecDepth 100000 in
set_option maxHeartbeats 16000000 in
theorem set_g {C : PC} {b : Nat} {R : PFs} (G : Good C b R) : EC C b 56 (setB C.L C.E R) := by
  intro deep i ns o w nv h P
  unfold setB at h
  obtain ⟨oa, hoa, h⟩ := Option.bind_eq_some_iff.1 h
  obtain ⟨a1, ha1⟩ : ∃ q, eqS (sgn (tokAt C.L C.E oa.i)) qSet = q := ⟨_, rfl⟩
  rw [ha1] at h
  cases a1
  rotate_left
  · rw [if_pos rfl] at h; cases h
  rw [if_neg (by simp)] at h
  obtain rfl := Option.some.inj h
  have hbl := P.lt
  have cX := G.compared deep i ns oa w nv hoa P
  have c1 : ((sgn (tokAt C.L C.E oa.i)).toList != [58, 61]) = true := (neS_lit qSet rfl).trans (by rw [ha1]; rfl)
  have c1e : ((sgn (tokAt C.L C.E oa.i)).toList == [58, 61]) = false := (eqS_lit qSet rfl).trans ha1
  generalize hQ : EPost C b w nv oa = Q
  have hpost := epost_out hQ
  rw [hQ] at cX
  have cX2 := G.compared deep i ns oa w nv hoa P
  clear hQ cX
  obtain ⟨ta, ia, nsa⟩ := oa
  dsimp only at hpost c1 c1e
  have hsf := fun (W : World) nv' (hP : PS C b W ia nv' nsa) => sign_c hP
  generalize sgn (tokAt C.L C.E ia) = sg at *
  replace cX2 := Lib.hid cX2; replace hpost := Lib.hid hpost; replace hsf := Lib.hid hsf; replace ha1 := Lib.hid ha1; replace hoa := Lib.hid hoa
  clear h
  go_enter Tryz.func56, Tryz.ntmps56
  go_wp2_with (first
    | (go_at_call 83; (with_reducible refine (cX2.out).mono ?_); rintro e w1 ⟨q1, nv1, rfl, P1, F1, T1⟩; dsimp only at P1 T1)
    | (go_at_call 46; (with_reducible refine (hsf.out _ _ P1).mono ?_); rintro e w2 ⟨rfl, hb2⟩))
  have hbl1 := P1.lt
  exact hpost.out q1 nv1 _ ⟨P1.below hb2, F1.near hb2 (by omega), T1.below hb2⟩
end Go.Proofs.YtcjoheplilaccaaGreat
