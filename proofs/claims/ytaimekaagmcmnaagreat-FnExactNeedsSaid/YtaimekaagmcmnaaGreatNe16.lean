/- Parts of the proof, merged: Pr2, Pr3, Pr5, Pr6. -/
import Derived.Test.YtaimekaagmcmnaaGreatNe15
/- The program's parser: what starts what; no types. -/
namespace Go.Proofs.YtaimekaagmcmnaaGreat
open Go.RowKit
set_option linter.unusedVariables false
set_option linter.unusedSimpArgs false
attribute [local go_sem] Ext.cell

theorem eqS_lit {a : ByteArray} {l : List UInt8} (q : ByteArray) (h : q.data.toList = l) : (a.toList == l) = eqS a q := by subst h; unfold eqS; rw [ByteArray.toList_eq]
theorem signs_ok : (∀ y ∈ patSigns, StrOk y) ∧ (∀ y ∈ atomSigns, StrOk y) ∧ (∀ y ∈ exprSigns, StrOk y) ∧ (∀ y ∈ cmpSigns, StrOk y) ∧ (∀ y ∈ sumSigns, StrOk y) ∧ (∀ y ∈ mulSigns, StrOk y) := by
  refine ⟨?_, ?_, ?_, ?_, ?_, ?_⟩ <;> (intro y hy; simp [patSigns, atomSigns, exprSigns, cmpSigns, sumSigns, mulSigns] at hy; rcases hy with rfl | rfl | rfl | rfl | rfl | rfl | rfl | rfl | rfl <;> (unfold StrOk; decide)) 
theorem has_c (xs : List ByteArray) (hok : ∀ y ∈ xs, StrOk y) (v : ByteArray) (g : Nat) (w : World) (h : RowAt w g 0 (xs.map Value.string)) (n : Nat) (hn : n = xs.length) (hm : n ≤ 100) :
    Calls Tryz.prog 50 #[.slice (some ⟨g, 0, none⟩) n n, .string v] w fun e w' => e = .returned (.bool (anyS xs v)) ∧ Below w.heap.size w w' := by
  subst hn
  rw [← anyS_list]
  exact containsS_c xs v g _ w (row_strs h hok xs.length (Nat.le_refl _) (by omega))

set_option maxRecDepth 100000 in
set_option maxHeartbeats 4000000 in
theorem startsPat_c (t : GTok) (w : World) : Calls Tryz.prog 178 #[.agg (tokRow t).toArray] w fun e w' => e = .returned (.bool (startsPatP t)) ∧ Below w.heap.size w w' := by
  have cS := fun W => SignOf_c t W
  have hk : startsPatP t = (decide (t.kind = 3 ∨ t.kind = 1 ∨ t.kind = 4) || anyS patSigns (sgn t)) := rfl
  rw [hk]
  clear hk
  generalize sgn t = sg at *
  obtain ⟨kd, nn, s0, a⟩ := t
  replace cS : ∀ W, Calls Tryz.prog 142 #[.agg #[.int .i64 kd, .int .i64 nn, .string s0, .int .i64 a]] W fun e w' => e = .returned (.string sg) ∧ Below W.heap.size W w' := cS
  replace cS := Lib.hid cS
  show Calls Tryz.prog 178 #[.agg #[.int .i64 kd, .int .i64 nn, .string s0, .int .i64 a]] w fun e w' => e = .returned (.bool (decide (kd = 3 ∨ kd = 1 ∨ kd = 4) || anyS patSigns sg)) ∧ Below w.heap.size w w'
  by_cases h3 : kd = 3 ∨ kd = 1 ∨ kd = 4
  · rw [decide_eq_true h3, Bool.true_or]
    rcases h3 with rfl | rfl | rfl
    all_goals
      go_enter Tryz.func178, Tryz.ntmps178
      go_wp2_with fail
      go_returns
      exact ⟨rfl, by go_grown⟩
  · rw [decide_eq_false h3, Bool.false_or]
    have d1 : (kd == 3) = false := beq_eq_false_iff_ne.2 fun h => h3 (.inl h)
    have d2 : (kd == 1) = false := beq_eq_false_iff_ne.2 fun h => h3 (.inr (.inl h))
    have d3 : (kd == 4) = false := beq_eq_false_iff_ne.2 fun h => h3 (.inr (.inr h))
    have cH := fun g W h => has_c patSigns signs_ok.1 sg g W h 6 rfl (by omega)
    replace cH := Lib.hid cH
    clear h3
    go_enter Tryz.func178, Tryz.ntmps178
    go_upto_region 1 with fail
    have B : RowAt (w.alloc (.cells #[.int .i64 kd, .int .i64 nn, .string s0, .int .i64 a] 181)) (w.heap.size) 0 [.int .i64 kd, .int .i64 nn, .string s0, .int .i64 a] := RowAt.box w #[.int .i64 kd, .int .i64 nn, .string s0, .int .i64 a] 181
    have hw : Below w.heap.size w (w.alloc (.cells #[.int .i64 kd, .int .i64 nn, .string s0, .int .i64 a] 181)) := by go_grown
    generalize (w.alloc (.cells #[.int .i64 kd, .int .i64 nn, .string s0, .int .i64 a] 181)) = w0 at *
    obtain ⟨b_0, b_1, b_2, b_3⟩ := B.box4; have hsB := World.block_lt_of_cell? _ _ b_0; dsimp only at hsB
    go_wp2_with (first
      | (go_at_call 142; (with_reducible refine (cS.out _).mono ?_); rintro e w2 ⟨rfl, hb2⟩; have K2 : RowAt w2 w0.heap.size 0 (patSigns.map Value.string) := (RowAt.box w0 #[.string ⟨#[95]⟩, .string ⟨#[45]⟩, .string ⟨#[116, 114, 117, 101]⟩, .string ⟨#[102, 97, 108, 115, 101]⟩, .string ⟨#[40]⟩, .string ⟨#[91]⟩] 9).below hb2; have hw2 : Below w.heap.size w w2 := (hw.trans (show Below w.heap.size w0 _ from Below.mono (by go_grown) hw.size)).trans (hb2.mono (by have := hw.size; simp; omega)))
      | (go_at_call 50; (with_reducible refine (cH.out _ _ K2).mono ?_); rintro e w3 ⟨rfl, hb3⟩))
    go_returns
    exact ⟨rfl, hw2.trans (hb3.mono hw2.size)⟩
set_option maxRecDepth 100000 in
set_option maxHeartbeats 4000000 in
theorem startsAtom_c (t : GTok) (w : World) : Calls Tryz.prog 163 #[.agg (tokRow t).toArray] w fun e w' => e = .returned (.bool (startsAtomP t)) ∧ Below w.heap.size w w' := by
  have cS := fun W => SignOf_c t W
  have hk : startsAtomP t = (decide (t.kind = 1 ∨ t.kind = 2 ∨ t.kind = 3 ∨ t.kind = 4) || anyS atomSigns (sgn t)) := rfl
  rw [hk]
  clear hk
  generalize sgn t = sg at *
  obtain ⟨kd, nn, s0, a⟩ := t
  replace cS : ∀ W, Calls Tryz.prog 142 #[.agg #[.int .i64 kd, .int .i64 nn, .string s0, .int .i64 a]] W fun e w' => e = .returned (.string sg) ∧ Below W.heap.size W w' := cS
  replace cS := Lib.hid cS
  show Calls Tryz.prog 163 #[.agg #[.int .i64 kd, .int .i64 nn, .string s0, .int .i64 a]] w fun e w' => e = .returned (.bool (decide (kd = 1 ∨ kd = 2 ∨ kd = 3 ∨ kd = 4) || anyS atomSigns sg)) ∧ Below w.heap.size w w'
  by_cases h3 : kd = 1 ∨ kd = 2 ∨ kd = 3 ∨ kd = 4
  · rw [decide_eq_true h3, Bool.true_or]
    rcases h3 with rfl | rfl | rfl | rfl
    all_goals
      go_enter Tryz.func163, Tryz.ntmps163
      go_wp2_with fail
      go_returns
      exact ⟨rfl, by go_grown⟩
  · rw [decide_eq_false h3, Bool.false_or]
    have d1 : (kd == 1) = false := beq_eq_false_iff_ne.2 fun h => h3 (.inl h)
    have d2 : (kd == 2) = false := beq_eq_false_iff_ne.2 fun h => h3 (.inr (.inl h))
    have d3 : (kd == 3) = false := beq_eq_false_iff_ne.2 fun h => h3 (.inr (.inr (.inl h)))
    have d4 : (kd == 4) = false := beq_eq_false_iff_ne.2 fun h => h3 (.inr (.inr (.inr h)))
    have cH := fun g W h => has_c atomSigns signs_ok.2.1 sg g W h 4 rfl (by omega)
    replace cH := Lib.hid cH
    clear h3
    go_enter Tryz.func163, Tryz.ntmps163
    go_upto_region 1 with fail
    have B : RowAt (w.alloc (.cells #[.int .i64 kd, .int .i64 nn, .string s0, .int .i64 a] 181)) (w.heap.size) 0 [.int .i64 kd, .int .i64 nn, .string s0, .int .i64 a] := RowAt.box w #[.int .i64 kd, .int .i64 nn, .string s0, .int .i64 a] 181
    have hw : Below w.heap.size w (w.alloc (.cells #[.int .i64 kd, .int .i64 nn, .string s0, .int .i64 a] 181)) := by go_grown
    generalize (w.alloc (.cells #[.int .i64 kd, .int .i64 nn, .string s0, .int .i64 a] 181)) = w0 at *
    obtain ⟨b_0, b_1, b_2, b_3⟩ := B.box4; have hsB := World.block_lt_of_cell? _ _ b_0; dsimp only at hsB
    go_wp2_with (first
      | (go_at_call 142; (with_reducible refine (cS.out _).mono ?_); rintro e w2 ⟨rfl, hb2⟩; have K2 : RowAt w2 w0.heap.size 0 (atomSigns.map Value.string) := (RowAt.box w0 #[.string ⟨#[116, 114, 117, 101]⟩, .string ⟨#[102, 97, 108, 115, 101]⟩, .string ⟨#[40]⟩, .string ⟨#[91]⟩] 9).below hb2; have hw2 : Below w.heap.size w w2 := (hw.trans (show Below w.heap.size w0 _ from Below.mono (by go_grown) hw.size)).trans (hb2.mono (by have := hw.size; simp; omega)))
      | (go_at_call 50; (with_reducible refine (cH.out _ _ K2).mono ?_); rintro e w3 ⟨rfl, hb3⟩))
    go_returns
    exact ⟨rfl, hw2.trans (hb3.mono hw2.size)⟩
set_option maxRecDepth 100000 in
set_option maxHeartbeats 4000000 in
theorem startsExpr_c (t : GTok) (w : World) : Calls Tryz.prog 141 #[.agg (tokRow t).toArray] w fun e w' => e = .returned (.bool (startsExprP t)) ∧ Below w.heap.size w w' := by
  have cS := fun W => SignOf_c t W
  have cA := fun W => startsAtom_c t W
  have hk : startsExprP t = (startsAtomP t || anyS exprSigns (sgn t)) := rfl
  rw [hk]
  clear hk
  generalize sgn t = sg at *
  generalize startsAtomP t = sa at *
  obtain ⟨kd, nn, s0, a⟩ := t
  replace cS : ∀ W, Calls Tryz.prog 142 #[.agg #[.int .i64 kd, .int .i64 nn, .string s0, .int .i64 a]] W fun e w' => e = .returned (.string sg) ∧ Below W.heap.size W w' := cS
  replace cA : ∀ W, Calls Tryz.prog 163 #[.agg #[.int .i64 kd, .int .i64 nn, .string s0, .int .i64 a]] W fun e w' => e = .returned (.bool sa) ∧ Below W.heap.size W w' := cA
  have cH := fun g W h => has_c exprSigns signs_ok.2.2.1 sg g W h 9 rfl (by omega)
  replace cH := Lib.hid cH; replace cS := Lib.hid cS; replace cA := Lib.hid cA
  show Calls Tryz.prog 141 #[.agg #[.int .i64 kd, .int .i64 nn, .string s0, .int .i64 a]] w fun e w' => e = .returned (.bool (sa || anyS exprSigns sg)) ∧ Below w.heap.size w w'
  cases sa
  · rw [Bool.false_or]
    go_enter Tryz.func141, Tryz.ntmps141
    go_upto_region 1 with fail
    have B : RowAt (w.alloc (.cells #[.int .i64 kd, .int .i64 nn, .string s0, .int .i64 a] 181)) (w.heap.size) 0 [.int .i64 kd, .int .i64 nn, .string s0, .int .i64 a] := RowAt.box w #[.int .i64 kd, .int .i64 nn, .string s0, .int .i64 a] 181
    have hw : Below w.heap.size w (w.alloc (.cells #[.int .i64 kd, .int .i64 nn, .string s0, .int .i64 a] 181)) := by go_grown
    generalize (w.alloc (.cells #[.int .i64 kd, .int .i64 nn, .string s0, .int .i64 a] 181)) = w0 at *
    obtain ⟨b_0, b_1, b_2, b_3⟩ := B.box4; have hsB := World.block_lt_of_cell? _ _ b_0; dsimp only at hsB
    go_wp2_with (first
      | (go_at_call 163; (with_reducible refine (cA.out _).mono ?_); rintro e w1 ⟨rfl, hb1⟩; have hw1 := hw.trans (hb1.mono hw.size); have B1 := B.below hb1; clear b_0 b_1 b_2 b_3 hsB; obtain ⟨b1_0, b1_1, b1_2, b1_3⟩ := B1.box4; have hsB1 := World.block_lt_of_cell? _ _ b1_0; dsimp only at hsB1)
      | (go_at_call 142; (with_reducible refine (cS.out _).mono ?_); rintro e w2 ⟨rfl, hb2⟩; have K2 : RowAt w2 w1.heap.size 0 (exprSigns.map Value.string) := (RowAt.box w1 #[.string ⟨#[102, 117, 110]⟩, .string ⟨#[108, 101, 116]⟩, .string ⟨#[105, 102]⟩, .string ⟨#[109, 97, 116, 99, 104]⟩, .string ⟨#[116, 114, 121]⟩, .string ⟨#[114, 97, 105, 115, 101]⟩, .string ⟨#[114, 101, 102]⟩, .string ⟨#[33]⟩, .string ⟨#[45]⟩] 9).below hb2; have hw2 : Below w.heap.size w w2 := (hw1.trans (show Below w.heap.size w1 _ from Below.mono (by go_grown) hw1.size)).trans (hb2.mono (by have := hw1.size; simp; omega)))
      | (go_at_call 50; (with_reducible refine (cH.out _ _ K2).mono ?_); rintro e w3 ⟨rfl, hb3⟩))
    go_returns
    exact ⟨rfl, hw2.trans (hb3.mono hw2.size)⟩
  · rw [Bool.true_or]
    go_enter Tryz.func141, Tryz.ntmps141
    go_upto_region 1 with fail
    have B : RowAt (w.alloc (.cells #[.int .i64 kd, .int .i64 nn, .string s0, .int .i64 a] 181)) (w.heap.size) 0 [.int .i64 kd, .int .i64 nn, .string s0, .int .i64 a] := RowAt.box w #[.int .i64 kd, .int .i64 nn, .string s0, .int .i64 a] 181
    have hw : Below w.heap.size w (w.alloc (.cells #[.int .i64 kd, .int .i64 nn, .string s0, .int .i64 a] 181)) := by go_grown
    generalize (w.alloc (.cells #[.int .i64 kd, .int .i64 nn, .string s0, .int .i64 a] 181)) = w0 at *
    obtain ⟨b_0, b_1, b_2, b_3⟩ := B.box4; have hsB := World.block_lt_of_cell? _ _ b_0; dsimp only at hsB
    go_wp2_with (go_at_call 163; (with_reducible refine (cA.out _).mono ?_); rintro e w1 ⟨rfl, hb1⟩; have hw1 := hw.trans (hb1.mono hw.size))
    go_returns
    exact ⟨rfl, by go_grown⟩

set_option maxRecDepth 100000 in
set_option maxHeartbeats 4000000 in
theorem types_none {C : PC} {b i : Nat} {w : World} {nv : Value} {ns : List ByteArray} (P : PS C b w i nv ns) (h : eqS (sgn (tokAt C.L C.E i)) qType = false) :
    Calls Tryz.prog 115 #[.pointer (some ⟨b, 0, none⟩)] w fun e w' => (∃ a, e = .returned (.slice a 0 0)) ∧ Below w.heap.size w w' := by
  have cS := fun W (hW : Below w.heap.size w W) => sign_c (P.below hW)
  have d1 : ((sgn (tokAt C.L C.E i)).toList == [116, 121, 112, 101]) = false := (eqS_lit qType rfl).trans h
  generalize sgn (tokAt C.L C.E i) = sg at *
  replace cS := Lib.hid cS
  go_enter Tryz.func115, Tryz.ntmps115
  go_wp2_with fail
  go_loopw [3] (fun vv wr => (∃ a, vv = .slice a 0 0) ∧ Below w.heap.size w wr) (fun _ _ => 0)
  case atStart => exact ⟨⟨_, rfl⟩, by go_grown⟩
  case round =>
    obtain ⟨⟨a, rfl⟩, hw0⟩ := hrel
    go_wp2_with (go_at_call 135; (with_reducible refine (cS.out _ hw0).mono ?_); rintro e w2 ⟨rfl, hb2⟩)
    go_returns
    exact ⟨⟨_, rfl⟩, hw0.trans (hb2.mono hw0.size)⟩
end Go.Proofs.YtaimekaagmcmnaaGreat

/- The program's parser: what is claimed of its functions; how a node is made. -/
namespace Go.Proofs.YtaimekaagmcmnaaGreat
open Go.RowKit
set_option linter.unusedVariables false
set_option linter.unusedSimpArgs false
attribute [local go_sem] Ext.cell

def EC (C : PC) (b : Nat) (fn : Nat) (r : Nat → Nat → List ByteArray → Option (POut ExT)) : Prop :=
  ∀ deep i ns o w nv, r deep i ns = some o → PS C b w i nv ns → Calls Tryz.prog fn #[.pointer (some ⟨b, 0, none⟩), .int .i64 (deep : Int)] w (EPost C b w nv o)
def QC (C : PC) (b : Nat) (fn : Nat) (r : Nat → Nat → List ByteArray → Option (POut PxT)) : Prop :=
  ∀ deep i ns o w nv, r deep i ns = some o → PS C b w i nv ns → Calls Tryz.prog fn #[.pointer (some ⟨b, 0, none⟩), .int .i64 (deep : Int)] w (PPost C b w nv o)
structure Good (C : PC) (b : Nat) (R : PFs) : Prop where
  expr : EC C b 116 R.expr
  set : EC C b 145 R.set
  listed : EC C b 180 R.listed
  compared : EC C b 166 R.compared
  unary : EC C b 190 R.unary
  app : EC C b 191 R.app
  atom : EC C b 192 R.atom
  chain : ∀ level deep i ns o w nv, R.chain deep level i ns = some o → level ≤ 2 → PS C b w i nv ns → Calls Tryz.prog 186 #[.pointer (some ⟨b, 0, none⟩), .int .i64 (deep : Int), .int .i64 (level : Int)] w (EPost C b w nv o)
  mtch : ∀ deep (a : Int) i ns o w nv, I64 a → R.mtch deep a i ns = some o → PS C b w i nv ns → Calls Tryz.prog 144 #[.pointer (some ⟨b, 0, none⟩), .int .i64 (deep : Int), .int .i64 a] w (EPost C b w nv o)
  pat : QC C b 164 R.pat
  patAtom : QC C b 179 R.patAtom
  elim : ∀ deep i ns o, R.expr deep i ns = some o → deep ≤ 100
  plim : ∀ deep i ns o, R.pat deep i ns = some o → deep ≤ 100
theorem RowAt.pf {b q : Nat} {w w' : World} {nv nv' : Value} {r : List Value} {o : Nat} (h : RowAt w q o r) (f : PF b w nv w' nv') (hq : q ≠ b) (hn : nv.ownBlock ≠ some q) : RowAt w' q o r :=
  h.kept f.kept fun e => by rcases e with e | e; exact hq e; exact hn e
theorem Wr.pf {b q : Nat} {w w' : World} {nv nv' : Value} {o n : Nat} (h : Wr w q o n) (f : PF b w nv w' nv') (hq : q ≠ b) (hn : nv.ownBlock ≠ some q) : Wr w' q o n :=
  h.kept f.kept fun e => by rcases e with e | e; exact hq e; exact hn e
theorem fin_leaf {C : PC} {b i : Nat} {w w4 W : World} {nv nv' : Value} {ns : List ByteArray} (P : PS C b w4 i nv' ns) (F : PF b w nv w4 nv') {kd at_ nn : Int} {s : ByteArray} (hwf : (ExT.mk kd at_ nn s [] []).wf)
    (hW : W = w4.alloc (.cells #[.int .i64 kd, .int .i64 at_, .int .i64 nn, .string s, .slice none 0 0, .slice none 0 0] 167)) :
    PS C b W i nv' ns ∧ PF b w nv W nv' ∧ TR w.heap.size nv' W (.pointer (some ⟨w4.heap.size, 0, none⟩)) (exN kd at_ nn s []) := by
  subst hW
  have hb : Below w4.heap.size w4 (w4.alloc (.cells #[.int .i64 kd, .int .i64 at_, .int .i64 nn, .string s, .slice none 0 0, .slice none 0 0] 167)) := by go_grown
  exact ⟨P.below hb, F.trans (PF.of nv' hb (Nat.le_of_lt P.lt)), TR.leaf ⟨F.size, P.fresh (Nat.le_refl _)⟩ hwf (Nat.zero_le _) (RowAt.box w4 #[_, _, _, _, _, _] _)⟩
theorem fin_node {C : PC} {b i n : Nat} {w w4 W : World} {nv nv' : Value} {ns : List ByteArray} (P : PS C b w4 i nv' ns) (F : PF b w nv w4 nv') {kd at_ nn : Int} {s : ByteArray} {vs : List Value} {ts : List ExT} (hwf : (ExT.mk kd at_ nn s ts []).wf)
    (hn : n = ts.length) (hl : vs.length = ts.length) (hm : n ≤ 100) (hk : ∀ (i : Nat) p t, vs[i]? = some p → ts[i]? = some t → TR w.heap.size nv' w4 p t)
    (hW : W = (w4.alloc (.cells vs.toArray 127)).alloc (.cells #[.int .i64 kd, .int .i64 at_, .int .i64 nn, .string s, .slice (some ⟨w4.heap.size, 0, none⟩) n n, .slice none 0 0] 167)) :
    PS C b W i nv' ns ∧ PF b w nv W nv' ∧ TR w.heap.size nv' W (.pointer (some ⟨w4.heap.size + 1, 0, none⟩)) (exN kd at_ nn s ts) := by
  subst hn
  have h1 := RowAt.box w4 vs.toArray 127
  have h2 := RowAt.box (w4.alloc (.cells vs.toArray 127)) #[.int .i64 kd, .int .i64 at_, .int .i64 nn, .string s, .slice (some ⟨w4.heap.size, 0, none⟩) ts.length ts.length, .slice none 0 0] 167
  simp only [World.size_alloc] at h2
  rw [← hW] at h2
  have hb2 : Below (w4.alloc (.cells vs.toArray 127)).heap.size (w4.alloc (.cells vs.toArray 127)) W := by rw [hW]; go_grown
  have h1' := h1.below hb2
  have hb : Below w4.heap.size w4 W := by rw [hW]; go_grown
  exact ⟨P.below hb, F.trans (PF.of nv' hb (Nat.le_of_lt P.lt)), TR.node ⟨Nat.le_trans F.size (Nat.le_succ _), P.fresh (Nat.le_succ _)⟩ ⟨F.size, P.fresh (Nat.le_refl _)⟩ hwf h2 (Nat.le_refl _) (by omega) h1' hl fun i p t hp ht => (hk i p t hp ht).below hb⟩
theorem hk1 {lo : Nat} {nv p1 : Value} {w : World} {t1 : ExT} (h1 : TR lo nv w p1 t1) : ∀ (i : Nat) p t, [p1][i]? = some p → [t1][i]? = some t → TR lo nv w p t := fun i p t hp ht => by
  match i, hp, ht with
  | 0, hp, ht => simp at hp ht; subst hp ht; exact h1
  | i + 1, hp, _ => simp at hp
theorem hk2 {lo : Nat} {nv p1 p2 : Value} {w : World} {t1 t2 : ExT} (h1 : TR lo nv w p1 t1) (h2 : TR lo nv w p2 t2) : ∀ (i : Nat) p t, [p1, p2][i]? = some p → [t1, t2][i]? = some t → TR lo nv w p t := fun i p t hp ht => by
  match i, hp, ht with
  | 0, hp, ht => simp at hp ht; subst hp ht; exact h1
  | 1, hp, ht => simp at hp ht; subst hp ht; exact h2
  | i + 2, hp, _ => simp at hp
theorem hk3 {lo : Nat} {nv p1 p2 p3 : Value} {w : World} {t1 t2 t3 : ExT} (h1 : TR lo nv w p1 t1) (h2 : TR lo nv w p2 t2) (h3 : TR lo nv w p3 t3) : ∀ (i : Nat) p t, [p1, p2, p3][i]? = some p → [t1, t2, t3][i]? = some t → TR lo nv w p t := fun i p t hp ht => by
  match i, hp, ht with
  | 0, hp, ht => simp at hp ht; subst hp ht; exact h1
  | 1, hp, ht => simp at hp ht; subst hp ht; exact h2
  | 2, hp, ht => simp at hp ht; subst hp ht; exact h3
  | i + 3, hp, _ => simp at hp
theorem atom_in {t : GTok} (h : startsAtomP t = true) : t.kind ≠ 0 := fun h0 => by
  unfold startsAtomP sgn at h
  rw [h0, if_neg (by decide)] at h
  exact absurd h (by decide)
theorem exw {k a n : Int} {s : ByteArray} {ks : List ExT} {ps : List GPat} (h1 : 0 ≤ k ∧ k ≤ 100) (h2 : I64 a) (h3 : I64 n) (h4 : StrOk s) : (ExT.mk k a n s ks ps).wf := ⟨⟨by show _ ≤ k; omega, by show k ≤ _; omega⟩, h2, h3, h4⟩
theorem z64 : I64 0 := ⟨by decide, by decide⟩
theorem bs_ok : StrOk (bs []) := by unfold StrOk; decide
theorem step_at {C : PC} {b i : Nat} {W : World} {nv : Value} {ns : List ByteArray} (P : PS C b W i nv ns) (hi : i < C.L.length) :
    PS C b (W.setCell ⟨b, 1, none⟩ (.int .i64 ((i : Int) + 1))) (i + 1) nv ns ∧ PF b W nv (W.setCell ⟨b, 1, none⟩ (.int .i64 ((i : Int) + 1))) nv := by
  have e : ((i + 1 : Nat) : Int) = (i : Int) + 1 := by omega
  rw [← e]
  exact ⟨P.setAt (by omega) (by omega), (PF.refl b W nv).set 1 _⟩
theorem PF.nt {b q : Nat} {w w' : World} {nv nv' : Value} (f : PF b w nv w' nv') (hn : nv.ownBlock ≠ some q) (hq : q < w.heap.size) : nv'.ownBlock ≠ some q := fun e => by
  rcases f.blk q e with h | h
  · exact hn h
  · omega
theorem neS_lit {a : ByteArray} {l : List UInt8} (q : ByteArray) (h : q.data.toList = l) : (a.toList != l) = !(eqS a q) := by rw [bne, eqS_lit q h]
theorem PF.near {b : Nat} {w w' w2 : World} {nv nv' : Value} (f : PF b w nv w' nv') (hb : Below w'.heap.size w' w2) (hl : b ≤ w'.heap.size) : PF b w nv w2 nv' := f.trans (PF.of nv' hb hl)
end Go.Proofs.YtaimekaagmcmnaaGreat

/- The program's parser: application, signs ahead, sums and products, lists, comparisons. -/
namespace Go.Proofs.YtaimekaagmcmnaaGreat
open Go.RowKit
set_option linter.unusedVariables false
set_option linter.unusedSimpArgs false
attribute [local go_sem] Ext.cell

theorem epost_out {C : PC} {b : Nat} {w : World} {nv : Value} {o : POut ExT} {Q : Ending → World → Prop} (hQ : EPost C b w nv o = Q) : ∀ q nv' W, PS C b W o.i nv' o.ns ∧ PF b w nv W nv' ∧ TR w.heap.size nv' W (.pointer (some ⟨q, 0, none⟩)) o.t → Q (.returned (.pointer (some ⟨q, 0, none⟩))) W := fun q nv' W h => by rw [← hQ]; exact ⟨q, nv', rfl, h⟩

set_option maxRecDepth 100000 in
set_option maxHeartbeats 16000000 in
theorem unary_g {C : PC} {b : Nat} {R : PFs} (G : Good C b R) : EC C b 190 (unaryB C.L C.E R) := by
  intro deep i ns o w nv h P
  have cT := tok_c P
  have cS := fun W => SignOf_c (tokAt C.L C.E i) W
  unfold unaryB at h
  dsimp only at h
  generalize hsg : sgn (tokAt C.L C.E i) = sg at *
  obtain ⟨a1, ha1⟩ : ∃ q, eqS sg qRaise = q := ⟨_, rfl⟩
  obtain ⟨a2, ha2⟩ : ∃ q, eqS sg qRef = q := ⟨_, rfl⟩
  obtain ⟨a3, ha3⟩ : ∃ q, eqS sg qBang = q := ⟨_, rfl⟩
  obtain ⟨a4, ha4⟩ : ∃ q, eqS sg qMinus = q := ⟨_, rfl⟩
  rw [ha1, ha2, ha3, ha4] at h
  split at h
  · cases h
  rename_i hno
  obtain ⟨rfl, rfl, rfl, rfl⟩ : a1 = false ∧ a2 = false ∧ a3 = false ∧ a4 = false := by cases a1 <;> cases a2 <;> cases a3 <;> cases a4 <;> simp at hno ⊢
  have c1 : (sg.toList == [114, 97, 105, 115, 101]) = false := (eqS_lit qRaise rfl).trans ha1
  have c2 : (sg.toList == [114, 101, 102]) = false := (eqS_lit qRef rfl).trans ha2
  have c3 : (sg.toList == [33]) = false := (eqS_lit qBang rfl).trans ha3
  have c4 : (sg.toList == [45]) = false := (eqS_lit qMinus rfl).trans ha4
  generalize tokAt C.L C.E i = t at *
  obtain ⟨kd, nn, s0, a⟩ := t
  replace cT : Calls Tryz.prog 140 #[.pointer (some ⟨b, 0, none⟩)] w fun e w' => e = .returned (.agg #[.int .i64 kd, .int .i64 nn, .string s0, .int .i64 a]) ∧ Below w.heap.size w w' := cT
  replace cS : ∀ W, Calls Tryz.prog 142 #[.agg #[.int .i64 kd, .int .i64 nn, .string s0, .int .i64 a]] W fun e w' => e = .returned (.string sg) ∧ Below W.heap.size W w' := cS
  have hbl := P.lt
  have cX := fun W (hW : Below w.heap.size w W) => G.app deep i ns o W nv h (P.below hW)
  generalize hQ : EPost C b w nv o = Q
  have hpost := epost_out hQ
  clear hQ
  replace cT := Lib.hid cT; replace cS := Lib.hid cS; replace cX := Lib.hid cX; replace hpost := Lib.hid hpost; replace hsg := Lib.hid hsg; replace ha1 := Lib.hid ha1; replace ha2 := Lib.hid ha2; replace ha3 := Lib.hid ha3; replace ha4 := Lib.hid ha4
  clear h hno
  go_enter Tryz.func190, Tryz.ntmps190
  go_upto_region 2 with (go_at_call 140; (with_reducible refine (cT.out).mono ?_); rintro e w1 ⟨rfl, hb1⟩)
  obtain ⟨w2, hW2⟩ : ∃ W, W = w1.alloc (.cells #[.int .i64 kd, .int .i64 nn, .string s0, .int .i64 a] 181) := ⟨_, rfl⟩
  rw [← hW2]
  have hb2 : Below w1.heap.size w1 w2 := by rw [hW2]; go_grown
  have E2 : RowAt w2 w1.heap.size 0 [.int .i64 kd, .int .i64 nn, .string s0, .int .i64 a] := by rw [hW2]; exact RowAt.box w1 #[_, _, _, _] _
  have hw02 := hb1.trans (hb2.mono hb1.size)
  clear hW2
  obtain ⟨e2_0, e2_1, e2_2, e2_3⟩ := E2.box4; have hsE2 := World.block_lt_of_cell? _ _ e2_0; dsimp only at hsE2
  go_wp2_with (first
    | (go_at_call 142; (with_reducible refine (cS.out _).mono ?_); rintro e w3 ⟨rfl, hb3⟩; have hw03 := hw02.trans (hb3.mono hw02.size))
    | (go_at_call 191; (with_reducible refine (cX.out _ hw03).mono ?_); rintro e w4 ⟨q4, nv4, rfl, P4, F4, T4⟩))
  exact hpost.out q4 nv4 _ ⟨P4, (PF.of nv hw03 (Nat.le_of_lt hbl)).trans F4, T4.lower hw03.size⟩

set_option maxRecDepth 100000 in
set_option maxHeartbeats 16000000 in
theorem set_g {C : PC} {b : Nat} {R : PFs} (G : Good C b R) : EC C b 145 (setB C.L C.E R) := by
  intro deep i ns o w nv h P
  unfold setB at h
  obtain ⟨oa, hoa, h⟩ := Option.bind_eq_some_iff.1 h
  obtain ⟨a1, ha1⟩ : ∃ q, eqS (sgn (tokAt C.L C.E oa.i)) qSet = q := ⟨_, rfl⟩
  rw [ha1] at h
  cases a1
  rotate_left
  · rw [if_pos rfl] at h; cases h
  rw [if_neg (by simp)] at h
  obtain rfl := Option.some.inj h
  have hbl := P.lt
  have cX := G.compared deep i ns oa w nv hoa P
  have c1 : ((sgn (tokAt C.L C.E oa.i)).toList != [58, 61]) = true := (neS_lit qSet rfl).trans (by rw [ha1]; rfl)
  have c1e : ((sgn (tokAt C.L C.E oa.i)).toList == [58, 61]) = false := (eqS_lit qSet rfl).trans ha1
  generalize hQ : EPost C b w nv oa = Q
  have hpost := epost_out hQ
  rw [hQ] at cX
  have cX2 := G.compared deep i ns oa w nv hoa P
  clear hQ cX
  obtain ⟨ta, ia, nsa⟩ := oa
  dsimp only at hpost c1 c1e
  have hsf := fun (W : World) nv' (hP : PS C b W ia nv' nsa) => sign_c hP
  generalize sgn (tokAt C.L C.E ia) = sg at *
  replace cX2 := Lib.hid cX2; replace hpost := Lib.hid hpost; replace hsf := Lib.hid hsf; replace ha1 := Lib.hid ha1; replace hoa := Lib.hid hoa
  clear h
  go_enter Tryz.func145, Tryz.ntmps145
  go_wp2_with (first
    | (go_at_call 166; (with_reducible refine (cX2.out).mono ?_); rintro e w1 ⟨q1, nv1, rfl, P1, F1, T1⟩; dsimp only at P1 T1)
    | (go_at_call 135; (with_reducible refine (hsf.out _ _ P1).mono ?_); rintro e w2 ⟨rfl, hb2⟩))
  have hbl1 := P1.lt
  exact hpost.out q1 nv1 _ ⟨P1.below hb2, F1.near hb2 (by omega), T1.below hb2⟩
end Go.Proofs.YtaimekaagmcmnaaGreat

/- The program's parser: lists, comparisons. -/
namespace Go.Proofs.YtaimekaagmcmnaaGreat
open Go.RowKit
set_option linter.unusedVariables false
set_option linter.unusedSimpArgs false
attribute [local go_sem] Ext.cell

theorem eat_is {L : List GTok} {E i : Nat} {s : ByteArray} (h : eqS (sgn (tokAt L E i)) s = true) : eatP L E i s = some (i + 1) := by unfold eatP; rw [h]; rfl
set_option maxRecDepth 100000 in
set_option maxHeartbeats 16000000 in
theorem listed_g {C : PC} {b : Nat} {R : PFs} (G : Good C b R) : EC C b 180 (listedB C.L C.E R) := by
  intro deep i ns o w nv h P
  unfold listedB at h
  obtain ⟨oa, hoa, h⟩ := Option.bind_eq_some_iff.1 h
  have cX : Calls Tryz.prog 186 #[.pointer (some ⟨b, 0, none⟩), .int .i64 (deep : Int), .int .i64 0] w (EPost C b w nv oa) := G.chain 0 deep i ns oa w nv hoa (by omega) P
  have hbl := P.lt
  have hlen := P.ok.len
  generalize hQ : EPost C b w nv o = Q
  have hpost := epost_out hQ
  clear hQ
  obtain ⟨ta, ia, nsa⟩ := oa
  dsimp only at h
  obtain ⟨a1, ha1⟩ : ∃ q, eqS (sgn (tokAt C.L C.E ia)) qCons = q := ⟨_, rfl⟩
  have c1 : ((sgn (tokAt C.L C.E ia)).toList != [58, 58]) = !a1 := (neS_lit qCons rfl).trans (by rw [ha1])
  have c1e : ((sgn (tokAt C.L C.E ia)).toList == [58, 58]) = a1 := (eqS_lit qCons rfl).trans ha1
  have hsf := fun (W : World) nv' (hP : PS C b W ia nv' nsa) => sign_c hP
  have hef : a1 = true → eatP C.L C.E ia qCons = some (ia + 1) := fun h => eat_is (ha1.trans h)
  have hwa := fun (W : World) (hP : C.Ok b W) => (tokAt_wf hP ia).2.2.2
  rw [ha1] at h
  generalize sgn (tokAt C.L C.E ia) = sg at *
  replace cX := Lib.hid cX; replace hsf := Lib.hid hsf; replace ha1 := Lib.hid ha1; replace hoa := Lib.hid hoa; replace hwa := Lib.hid hwa
  cases a1
  · replace c1 : (sg.toList != [58, 58]) = true := c1
    rw [if_neg (by simp)] at h
    obtain rfl := Option.some.inj h
    replace hpost := Lib.hid hpost
    clear h hef
    go_enter Tryz.func180, Tryz.ntmps180
    go_wp2_with (first
      | (go_at_call 186; (with_reducible refine (cX.out).mono ?_); rintro e w1 ⟨q1, nv1, rfl, P1, F1, T1⟩; dsimp only at P1 T1)
      | (go_at_call 135; (with_reducible refine (hsf.out _ _ P1).mono ?_); rintro e w2 ⟨rfl, hb2⟩))
    have hbl1 := P1.lt
    exact hpost.out q1 nv1 _ ⟨P1.below hb2, F1.near hb2 (by omega), T1.below hb2⟩
  · replace c1 : (sg.toList != [58, 58]) = false := c1
    rw [if_pos rfl] at h
    obtain ⟨ob, hob, h⟩ := Option.bind_eq_some_iff.1 h
    obtain rfl := Option.some.inj h
    obtain ⟨tb, ib, nsb⟩ := ob
    dsimp only at hpost
    have hej := hef rfl
    have cEt := fun (W : World) nv' (hP : PS C b W ia nv' nsa) => eat_c hP ⟨#[58, 58]⟩ (by decide) hej
    replace hpost := Lib.hid hpost; replace hob := Lib.hid hob; replace cEt := Lib.hid cEt
    clear h hef
    go_enter Tryz.func180, Tryz.ntmps180
    go_upto_region 5 with (first
      | (go_at_call 186; (with_reducible refine (cX.out).mono ?_); rintro e w1 ⟨q1, nv1, rfl, P1, F1, T1⟩; dsimp only at P1 T1)
      | (go_at_call 135; (with_reducible refine (hsf.out _ _ P1).mono ?_); rintro e w2 ⟨rfl, hb2⟩)
      | (go_at_call 137; (with_reducible refine (cEt.out _ _ (P1.below hb2)).mono ?_); rintro e w3 ⟨rfl, P3, F3⟩))
    have hbl1 := P1.lt
    have hz2 := hb2.size
    have FF3 := (F1.near hb2 (by omega)).trans F3
    have T3 := (T1.below hb2).step F3 (by omega)
    have hat := hwa.out w3 P3.ok
    generalize (tokAt C.L C.E ia).at_ = at1 at *
    have cY := G.listed deep (ia + 1) nsa _ w3 nv1 hob.out P3
    replace cY := Lib.hid cY
    clear cX hsf P1 F1 T1 F3 hwa cEt
    go_upto_region 6 with (go_at_call 180; (with_reducible refine (cY.out).mono ?_); rintro e w4 ⟨q4, nv4, rfl, P4, F4, T4⟩; dsimp only at P4 T4)
    have FF4 := FF3.trans F4
    have T3' := T3.step F4 (by omega)
    have T4' := T4.lower FF3.size
    obtain ⟨P5, F5, T5⟩ := fin_node P4 FF4 (kd := 11) (at_ := at1) (nn := 0) (s := bs []) (n := 2) (exw (by omega) hat z64 bs_ok) rfl rfl (by omega) (hk2 T3' T4') rfl
    clear T3 T4 T3' T4' P4 FF4 F4 cY P3
    obtain ⟨W5, hW5⟩ : ∃ W, W = (w4.alloc (.cells [.pointer (some ⟨q1, 0, none⟩), .pointer (some ⟨q4, 0, none⟩)].toArray 127)).alloc (.cells #[.int .i64 11, .int .i64 at1, .int .i64 0, .string (bs []), .slice (some ⟨w4.heap.size, 0, none⟩) 2 2, .slice none 0 0] 167) := ⟨_, rfl⟩
    rw [← hW5] at P5 F5 T5
    have hW5' : W5 = (w4.alloc (.cells #[.pointer (some ⟨q1, 0, none⟩), .pointer (some ⟨q4, 0, none⟩)] 127)).alloc (.cells #[.int .i64 11, .int .i64 at1, .int .i64 0, .string ⟨#[]⟩, .slice (some ⟨w4.heap.size, 0, none⟩) 2 2, .slice none 0 0] 167) := hW5
    rw [← hW5']
    obtain ⟨q5, hq5⟩ : ∃ q, q = w4.heap.size + 1 := ⟨_, rfl⟩
    rw [← hq5] at T5 ⊢
    clear hW5 hW5' hq5
    have hf := fin_node P5 F5 (kd := 4) (at_ := at1) (nn := 0) (s := qCons) (n := 1) (exw (by omega) hat z64 (by unfold StrOk; decide)) rfl rfl (by omega) (hk1 T5) rfl
    replace hf := Lib.hid hf
    clear P5 F5 T5
    go_wp2_with fail
    exact hpost.out _ nv4 _ hf.out

set_option maxRecDepth 100000 in
set_option maxHeartbeats 16000000 in
theorem compared_g {C : PC} {b : Nat} {R : PFs} (G : Good C b R) : EC C b 166 (comparedB C.L C.E R) := by
  intro deep i ns o w nv h P
  unfold comparedB at h
  obtain ⟨oa, hoa, h⟩ := Option.bind_eq_some_iff.1 h
  have cX := G.listed deep i ns oa w nv hoa P
  have hbl := P.lt
  have hlen := P.ok.len
  generalize hQ : EPost C b w nv o = Q
  have hpost := epost_out hQ
  clear hQ
  obtain ⟨ta, ia, nsa⟩ := oa
  dsimp only at h
  obtain ⟨a1, ha1⟩ : ∃ q, anyS cmpSigns (sgn (tokAt C.L C.E ia)) = q := ⟨_, rfl⟩
  have hte := fun (W : World) nv' (hP : PS C b W ia nv' nsa) => tok_c hP
  have cS := fun W => SignOf_c (tokAt C.L C.E ia) W
  have cH := fun g W h => has_c cmpSigns signs_ok.2.2.2.1 (sgn (tokAt C.L C.E ia)) g W h 4 rfl (by omega)
  have hia : a1 = true → ia < C.L.length := fun h => by
    refine tokAt_kind (E := C.E) fun h0 => ?_
    rw [h] at ha1
    unfold sgn at ha1
    rw [h0, if_neg (by decide)] at ha1
    exact absurd ha1 (by decide)
  have hwa := fun (W : World) (hP : C.Ok b W) => tokAt_wf hP ia
  rw [ha1] at h cH
  generalize sgn (tokAt C.L C.E ia) = sg at *
  generalize tokAt C.L C.E ia = t at *
  obtain ⟨kd, nn, s0, a⟩ := t
  replace hte : ∀ (W : World) nv', PS C b W ia nv' nsa → Calls Tryz.prog 140 #[.pointer (some ⟨b, 0, none⟩)] W fun e w' => e = .returned (.agg #[.int .i64 kd, .int .i64 nn, .string s0, .int .i64 a]) ∧ Below W.heap.size W w' := hte
  replace cS : ∀ W, Calls Tryz.prog 142 #[.agg #[.int .i64 kd, .int .i64 nn, .string s0, .int .i64 a]] W fun e w' => e = .returned (.string sg) ∧ Below W.heap.size W w' := cS
  dsimp only at h
  replace cX := Lib.hid cX; replace hte := Lib.hid hte; replace cS := Lib.hid cS; replace cH := Lib.hid cH; replace ha1 := Lib.hid ha1; replace hoa := Lib.hid hoa; replace hwa := Lib.hid hwa
  go_enter Tryz.func166, Tryz.ntmps166
  go_upto_region 3 with (first
    | (go_at_call 180; (with_reducible refine (cX.out).mono ?_); rintro e w1 ⟨q1, nv1, rfl, P1, F1, T1⟩; dsimp only at P1 T1)
    | (go_at_call 140; (with_reducible refine (hte.out _ _ P1).mono ?_); rintro e w2 ⟨rfl, hb2⟩))
  have hbl1 := P1.lt
  have hwf := hwa.out w1 P1.ok
  obtain ⟨w3, hW3⟩ : ∃ W, W = w2.alloc (.cells #[.int .i64 kd, .int .i64 nn, .string s0, .int .i64 a] 181) := ⟨_, rfl⟩
  rw [← hW3]
  have hb3 : Below w2.heap.size w2 w3 := by rw [hW3]; go_grown
  have E3 : RowAt w3 w2.heap.size 0 [.int .i64 kd, .int .i64 nn, .string s0, .int .i64 a] := by rw [hW3]; exact RowAt.box w2 #[_, _, _, _] _
  have hz2 := hb2.size
  have hz3 : w2.heap.size < w3.heap.size := by rw [hW3]; simp
  have h13 := hb2.trans (hb3.mono hz2)
  obtain ⟨tb, htb⟩ : ∃ x, x = w2.heap.size := ⟨_, rfl⟩
  rw [← htb] at E3 hz3 ⊢
  have hnt : nv1.ownBlock ≠ some tb := P1.fresh (by omega)
  have htl : w1.heap.size ≤ tb := by omega
  clear hW3 hb3 hb2 hwa htb
  obtain ⟨e3_0, e3_1, e3_2, e3_3⟩ := E3.box4; have hsE3 := World.block_lt_of_cell? _ _ e3_0; dsimp only at hsE3
  obtain ⟨hwf1, hwf2, hwf3, hwf4⟩ := hwf
  dsimp only at hwf1 hwf2 hwf3 hwf4
  cases a1
  · rw [if_neg (by simp)] at h
    obtain rfl := Option.some.inj h
    replace hpost := Lib.hid hpost
    clear h hia
    go_wp2_with (first
      | (go_at_call 142; (with_reducible refine (cS.out _).mono ?_); rintro e w5 ⟨rfl, hb5⟩; have K5 : RowAt w5 w3.heap.size 0 (cmpSigns.map Value.string) := (RowAt.box w3 #[.string ⟨#[61]⟩, .string ⟨#[60, 62]⟩, .string ⟨#[60]⟩, .string ⟨#[60, 61]⟩] 9).below hb5; have h15 : Below w1.heap.size w1 w5 := (h13.trans (show Below w1.heap.size w3 _ from Below.mono (by go_grown) h13.size)).trans (hb5.mono (by have := h13.size; simp; omega)))
      | (go_at_call 50; (with_reducible refine (cH.out _ _ K5).mono ?_); rintro e w6 ⟨rfl, hb6⟩))
    have h16 := h15.trans (hb6.mono h15.size)
    exact hpost.out q1 nv1 _ ⟨P1.below h16, F1.near h16 (by omega), T1.below h16⟩
  · rw [if_pos rfl] at h
    obtain ⟨ob, hob, h⟩ := Option.bind_eq_some_iff.1 h
    obtain rfl := Option.some.inj h
    obtain ⟨tb2, ib, nsb⟩ := ob
    dsimp only at hpost
    have hil := hia rfl
    replace hpost := Lib.hid hpost; replace hob := Lib.hid hob
    clear h hia
    go_upto_region 5 with (first
      | (go_at_call 142; (with_reducible refine (cS.out _).mono ?_); rintro e w5 ⟨rfl, hb5⟩; have K5 : RowAt w5 w3.heap.size 0 (cmpSigns.map Value.string) := (RowAt.box w3 #[.string ⟨#[61]⟩, .string ⟨#[60, 62]⟩, .string ⟨#[60]⟩, .string ⟨#[60, 61]⟩] 9).below hb5; have h35 : Below w3.heap.size w3 w5 := (show Below w3.heap.size w3 _ by go_grown).trans (hb5.mono (by simp)))
      | (go_at_call 50; (with_reducible refine (cH.out _ _ K5).mono ?_); rintro e w6 ⟨rfl, hb6⟩))
    have h36 := h35.trans (hb6.mono h35.size)
    have h16 := h13.trans (h36.mono h13.size)
    have P6 := P1.below h16
    have F6 := F1.near h16 (by omega)
    have T6 := T1.below h16
    have E6 := E3.below h36
    have hz6 := h36.size
    clear e3_0 e3_1 e3_2 e3_3 hsE3 E3 K5 h35 hb5 hb6 P1 F1 T1 cX hte cS cH
    obtain ⟨p_0, p_1, p_2, p_3, p_4, p_5, p_6⟩ := P6.row.box7p
    have pf_1 := P6.wr.frz 1 (by omega)
    have hbl6 := P6.lt
    go_upto_region 6 with fail
    obtain ⟨P7, F7⟩ := step_at P6 hil
    have FF7 := F6.trans F7
    have T7 := T6.step F7 (by omega)
    have E7 := E6.pf F7 (by omega) hnt
    have h67 := F7.size
    clear p_0 p_1 p_2 p_3 p_4 p_5 p_6 pf_1 P6 E6 F6 T6
    generalize w6.setCell ⟨b, 1, none⟩ (.int .i64 ((ia : Int) + 1)) = w7 at *
    have hbl7 := P7.lt
    obtain ⟨e7_0, e7_1, e7_2, e7_3⟩ := E7.box4; have hsE7 := World.block_lt_of_cell? _ _ e7_0; dsimp only at hsE7
    have cY := fun W (hW : Below w7.heap.size w7 W) => G.listed deep (ia + 1) nsa _ W nv1 hob.out (P7.below hW)
    replace cY := Lib.hid cY
    have hd7 : Below w7.heap.size w7 w7.drew := (Below.refl _ _).drew
    go_region_held3 (fun w' => w'.cell? ⟨tb, 2, none⟩ = some (.string s0) ∧ w'.cell? ⟨tb, 3, none⟩ = some (.int .i64 a)) (first | exact ⟨e7_2, e7_3⟩ | exact ⟨e9_2, e9_3⟩ | go_keep)
      (first | (go_at_call 180; (with_reducible refine (cY.out _ hd7).mono ?_); rintro e w9 ⟨q9, nv9, rfl, P9, F9, T9⟩; dsimp only at P9 T9; have E9 := (E7.below hd7).pf F9 (by omega) hnt; obtain ⟨e9_0, e9_1, e9_2, e9_3⟩ := E9.box4; have hsE9 := World.block_lt_of_cell? _ _ e9_0; dsimp only at hsE9))
    all_goals
      have FF9 := (FF7.near hd7 (by omega)).trans F9
      have T9' := T9.lower (FF7.near hd7 (by omega)).size
      have T7' := (T7.below hd7).step F9 (by omega)
      have hf := fin_node P9 FF9 (kd := 10) (at_ := a) (nn := 0) (s := s0) (n := 2) (exw (by omega) hwf4 z64 hwf3) rfl rfl (by omega) (hk2 T7' T9') rfl
      replace hf := Lib.hid hf
      clear T7' T9' T9 T7 FF9 F9 P9 P7 cY
      go_wp2_with fail
      exact hpost.out _ nv9 _ hf.out
end Go.Proofs.YtaimekaagmcmnaaGreat
