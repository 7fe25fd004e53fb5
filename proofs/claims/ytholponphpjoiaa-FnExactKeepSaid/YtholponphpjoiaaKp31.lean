/- Parts of the proof, merged: Keep2, RetC. -/
import Derived.Test.YtholponphpjoiaaKp30
/- Keep: the plain law; the reference's Targets. -/
namespace Go.Proofs.Ytholponphpjoiaa
open Go.RowKit
set_option linter.unusedVariables false
set_option linter.unusedSimpArgs false
attribute [local go_sem] Ext.cell

set_option maxHeartbeats 4000000 in
theorem specTargets_c (x : GIns) (r : List Value) (lo : Nat) (w : World) (hr : GIns.R lo w r x) :
    Calls Try.prog 47 #[.agg r.toArray] w fun e w' => ∃ v, e = .returned v ∧ Sl IntR 1 w.heap.size w' v (tgtP x) ∧ Below w.heap.size w w' := by
  obtain ⟨op, a, b, s⟩ := x
  obtain ⟨rfl, ho, ha, hb, hs⟩ := hr
  dsimp only at *
  unfold tgtP
  dsimp only
  cases h1 : leadsP op
  · rw [if_neg (by decide)]
    obtain ⟨h8, h9, h12, h13, h18⟩ := leadsP_not h1
    by_cases h2 : op = 20
    · rw [if_pos h2]
      subst h2
      go_enter Try.func47, Try.ntmps47
      go_wp2_with fail
      go_returns
      refine ⟨_, rfl, ?_, by go_grown⟩
      have h := sl_one (w.alloc (.cells #[.int .i64 20, .int .i64 a, .int .i64 b, .string s] 59)) b hb 3 w.heap.size (by simp)
      simpa using h
    · rw [if_neg h2]
      have d2 : (op == 20) = false := by simpa using h2
      clear h1
      go_enter Try.func47, Try.ntmps47
      go_wp2_with fail
      go_returns
      exact ⟨_, rfl, ⟨_, 0, rfl, Nat.le_refl _, by decide, fun h => absurd h (by simp)⟩, by go_grown⟩
  · rw [if_pos rfl]
    rcases leadsP_cases h1 with rfl | rfl | rfl | rfl | rfl
    all_goals
      clear h1
      go_enter Try.func47, Try.ntmps47
      go_wp2_with fail
      go_returns
      refine ⟨_, rfl, ?_, by go_grown⟩
      have h := fun (o : Int) => sl_one (w.alloc (.cells #[.int .i64 o, .int .i64 a, .int .i64 b, .string s] 59)) a ha 3 w.heap.size (by simp)
      first | simpa using h 8 | simpa using h 9 | simpa using h 12 | simpa using h 13 | simpa using h 18

def newI (ps : List Int) (x : GIns) : GIns := if leadsP x.op then ⟨x.op, (cntLt ps x.a : Nat), x.b, x.s⟩ else if x.op = 20 then ⟨x.op, x.a, (cntLt ps x.b : Nat), x.s⟩ else x
def badI (ps : List Int) (x : GIns) : Bool := (tgtP x).any fun t => decide (ps.length ≤ cntLt ps t)
def insAt (is : List GIns) (p : Int) : GIns := is[p.toNat]?.getD ⟨0, 0, 0, ⟨#[]⟩⟩
/-- Place k is in the code, and greater than the one before it. -/
def plAt (n : Nat) (ps : List Int) (k : Nat) : Bool := decide (0 ≤ ps[k]?.getD 0 ∧ ps[k]?.getD 0 ≤ (n : Int) - 1) && (k == 0 || decide (ps[k - 1]?.getD 0 < ps[k]?.getD 0))
def allPl (n : Nat) (ps : List Int) : Bool := (List.range ps.length).all (plAt n ps)
def keepP (c : GCode) (ps : List Int) : Option GCode :=
  if codeOk c && (decide (0 < ps.length) && (allPl c.ins.length ps && !(ps.any fun p => badI ps (insAt c.ins p)))) then some ⟨ps.map fun p => newI ps (insAt c.ins p), c.pats⟩ else none
def KeepPost (o : Option GCode) (w : World) (e : Ending) (w' : World) : Prop :=
  ∃ r' bs, e = .returned (.tuple #[.agg r'.toArray, .bool o.isSome]) ∧ GCode.O bs w' r' (o.getD ⟨[], []⟩) ∧ bs.Nodup ∧ (∀ b ∈ bs, w.heap.size ≤ b) ∧ Below w.heap.size w w'
theorem KeepPost.zero {w W : World} (hb : Below w.heap.size w W) : KeepPost none w (.returned (.tuple #[.agg #[.slice none 0 0, .slice none 0 0], .bool false])) W :=
  ⟨[.slice none 0 0, .slice none 0 0], [], rfl, ⟨_, [], _, [], rfl, rfl, trivial, SlO.nil, SlO.nil⟩, List.nodup_nil, fun b hb => by (cases hb), hb⟩
theorem keep_notok {c : GCode} {ps : List Int} (h : codeOk c = false) : keepP c ps = none := by unfold keepP; rw [h]; rfl
theorem keep_empty {c : GCode} {ps : List Int} (h : ps.length = 0) : keepP c ps = none := by
  unfold keepP; rw [decide_eq_false (show ¬ 0 < ps.length by omega)]; simp
theorem keep_place {c : GCode} {ps : List Int} {k : Nat} (hk : k < ps.length) (h : plAt c.ins.length ps k = false) : keepP c ps = none := by
  have : allPl c.ins.length ps = false := by
    unfold allPl
    rw [List.all_eq_false]
    exact ⟨k, List.mem_range.2 hk, by rw [h]; decide⟩
  unfold keepP; rw [this]; simp
theorem keep_bad {c : GCode} {ps : List Int} {k : Nat} {p : Int} (hk : ps[k]? = some p) (h : badI ps (insAt c.ins p) = true) : keepP c ps = none := by
  have : (ps.any fun p => badI ps (insAt c.ins p)) = true := List.any_eq_true.2 ⟨p, List.mem_of_getElem? hk, h⟩
  unfold keepP; rw [this]; simp
theorem keep_good {c : GCode} {ps : List Int} (h0 : codeOk c = true) (h1 : 0 < ps.length) (h2 : ∀ k, k < ps.length → plAt c.ins.length ps k = true) (h3 : ∀ p ∈ ps, badI ps (insAt c.ins p) = false) : keepP c ps = some ⟨ps.map fun p => newI ps (insAt c.ins p), c.pats⟩ := by
  have h4 : (ps.any fun p => badI ps (insAt c.ins p)) = false := List.any_eq_false.2 fun p hp => by rw [h3 p hp]; decide
  have h5 : allPl c.ins.length ps = true := List.all_eq_true.2 fun k hk => h2 k (List.mem_range.1 hk)
  unfold keepP; rw [h0, h4, h5, decide_eq_true h1]; rfl
theorem plAt_in {n : Nat} {ps : List Int} {k : Nat} {p : Int} (h : plAt n ps k = true) (hp : ps[k]? = some p) : ∃ j : Nat, p = (j : Int) ∧ j < n := by
  unfold plAt at h
  rw [hp] at h
  simp only [Option.getD_some, Bool.and_eq_true, decide_eq_true_eq] at h
  exact ⟨p.toNat, by omega, by omega⟩
theorem plAt_rising {n : Nat} {ps : List Int} (h : ∀ k, k < ps.length → plAt n ps k = true) : Rising ps := by
  have hs : ∀ k p q, ps[k]? = some p → ps[k + 1]? = some q → p < q := fun k p q hp hq => by
    have h1 := h (k + 1) (List.getElem?_eq_some_iff.1 hq).1
    unfold plAt at h1
    simp only [Nat.add_sub_cancel, hp, hq, Option.getD_some, Bool.and_eq_true, Bool.or_eq_true, decide_eq_true_eq, beq_iff_eq] at h1
    omega
  intro i j p q hij hp hq
  obtain ⟨d, rfl⟩ : ∃ d, j = i + 1 + d := ⟨j - (i + 1), by omega⟩
  clear hij
  induction d generalizing q with
  | zero => exact hs i p q hp hq
  | succ d ih =>
    obtain ⟨m, hm⟩ : ∃ m, ps[i + 1 + d]? = some m := ⟨_, List.getElem?_eq_getElem (by have := (List.getElem?_eq_some_iff.1 hq).1; omega)⟩
    have h1 := ih m hm
    have h2 := hs (i + 1 + d) m q hm (by rw [← hq]; congr 1)
    omega
theorem tgt_len (x : GIns) : (tgtP x).length ≤ 1 := by
  unfold tgtP
  split
  · simp
  · split <;> simp
theorem newI_none {ps : List Int} {x : GIns} (h : (tgtP x).length = 0) : newI ps x = x ∧ badI ps x = false := by
  unfold badI newI
  unfold tgtP at h ⊢
  split at h
  · simp at h
  · split at h
    · simp at h
    · rename_i h1 h2
      rw [if_neg h1, if_neg h2, if_neg h1, if_neg h2]
      exact ⟨rfl, rfl⟩
theorem newI_leads {ps : List Int} {x : GIns} (h : leadsP x.op = true) : tgtP x = [x.a] ∧ newI ps x = ⟨x.op, (cntLt ps x.a : Nat), x.b, x.s⟩ ∧ badI ps x = decide (ps.length ≤ cntLt ps x.a) := by
  unfold badI newI tgtP
  rw [if_pos h, if_pos h]
  exact ⟨rfl, rfl, by simp⟩
theorem newI_arm {ps : List Int} {x : GIns} (h : x.op = 20) : tgtP x = [x.b] ∧ newI ps x = ⟨x.op, x.a, (cntLt ps x.b : Nat), x.s⟩ ∧ badI ps x = decide (ps.length ≤ cntLt ps x.b) := by
  have h1 : ¬ leadsP x.op = true := by rw [h]; decide
  unfold badI newI tgtP
  rw [if_neg h1, if_neg h1, if_pos h, if_pos h]
  exact ⟨rfl, rfl, by simp⟩
theorem leads_not20 {op : Int} (h : leadsP op = true) : (op == 20) = false := by
  rcases leadsP_cases h with rfl | rfl | rfl | rfl | rfl <;> rfl
theorem newI_wf {ps : List Int} {x : GIns} (h : x.wf) (hp : ps.length ≤ 1048576) : (newI ps x).wf := by
  obtain ⟨h0, h1, h2, h3⟩ := h
  have hc : ∀ y, I64 ((cntLt ps y : Nat) : Int) := fun y => by have := cntLt_le ps y; constructor <;> omega
  unfold newI
  split
  · exact ⟨h0, hc _, h2, h3⟩
  · split
    · exact ⟨h0, h1, hc _, h3⟩
    · exact ⟨h0, h1, h2, h3⟩
theorem codeOk_b0 {c : GCode} (h : codeOk c = true) : ∀ x ∈ c.ins, x.op ≠ 20 → x.b = 0 := fun x hx h20 => by
  have h1 := (codeOk_all h).2.2.2 x hx
  unfold insOkP at h1
  rw [if_neg h20] at h1
  repeat' split at h1
  all_goals (simp only [Bool.and_eq_true, beq_iff_eq] at h1; first | exact h1.2.1 | exact h1.2 | exact h1.2.2.1)

end Go.Proofs.Ytholponphpjoiaa

/- Returns out of a code result's cells: done once, over any slots. -/
namespace Go.Proofs.Ytholponphpjoiaa
open Go.RowKit
set_option linter.unusedVariables false
set_option linter.unusedSimpArgs false

theorem ret_code {fn : Func} {tmps : Array Value} {a : Nat} {g : Nat} {v0 v1 : Value} {w : World} (hf : fn.results = #[.cell a 31]) (hp : tmps.getD a undef = .pointer (some ⟨g, 0, none⟩)) (h0 : w.cell? ⟨g, 0, none⟩ = some v0) (h1 : w.cell? ⟨g, 1, none⟩ = some v1) :
    (results fn tmps).run Try.prog w = .ok (.agg #[v0, v1]) w := by
  have hp' : tmps[a]?.getD undef = .pointer (some ⟨g, 0, none⟩) := by simpa using hp
  simp [results, hf, go_sem, hp', h0, h1]
theorem ret_code_tmp {fn : Func} {tmps : Array Value} {a b : Nat} {g : Nat} {v0 v1 u : Value} {w : World} (hf : fn.results = #[.cell a 31, .tmp b]) (hp : tmps.getD a undef = .pointer (some ⟨g, 0, none⟩)) (hb : tmps.getD b undef = u) (h0 : w.cell? ⟨g, 0, none⟩ = some v0) (h1 : w.cell? ⟨g, 1, none⟩ = some v1) :
    (results fn tmps).run Try.prog w = .ok (.tuple #[.agg #[v0, v1], u]) w := by
  have hp' : tmps[a]?.getD undef = .pointer (some ⟨g, 0, none⟩) := by simpa using hp
  have hb' : tmps[b]?.getD undef = u := by simpa using hb
  simp [results, hf, go_sem, hp', hb', h0, h1]

end Go.Proofs.Ytholponphpjoiaa
