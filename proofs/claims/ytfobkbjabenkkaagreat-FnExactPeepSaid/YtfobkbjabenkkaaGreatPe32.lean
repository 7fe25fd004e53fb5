/- Parts of the proof, merged: Keep2, Reach2, RetC, Sort, Sort2. -/
import Derived.Shelf.Slices.In.SortAlone
import Derived.Test.YtfobkbjabenkkaaGreatProg
import Derived.Lib.SortBridge
import Derived.Test.YtfobkbjabenkkaaGreatPe31
/- Keep: the plain law; the reference's Targets. -/
namespace Go.Proofs.YtfobkbjabenkkaaGreat
open Go.RowKit
set_option linter.unusedVariables false
set_option linter.unusedSimpArgs false
attribute [local go_sem] Ext.cell

set_option maxHeartbeats 4000000 in
theorem specTargets_c (x : GIns) (r : List Value) (lo : Nat) (w : World) (hr : GIns.R lo w r x) :
    Calls Tryz.prog 64 #[.agg r.toArray] w fun e w' => ∃ v, e = .returned v ∧ Sl IntR 1 w.heap.size w' v (tgtP x) ∧ Below w.heap.size w w' := by
  obtain ⟨op, a, b, s⟩ := x
  obtain ⟨rfl, ho, ha, hb, hs⟩ := hr
  dsimp only at *
  unfold tgtP
  dsimp only
  cases h1 : leadsP op
  · rw [if_neg (by decide)]
    obtain ⟨h8, h9, h12, h13, h18⟩ := leadsP_not h1
    by_cases h2 : op = 20
    · rw [if_pos h2]
      subst h2
      go_enter Tryz.func64, Tryz.ntmps64
      go_wp2_with fail
      go_returns
      refine ⟨_, rfl, ?_, by go_grown⟩
      have h := sl_one (w.alloc (.cells #[.int .i64 20, .int .i64 a, .int .i64 b, .string s] 57)) b hb 3 w.heap.size (by simp)
      simpa using h
    · rw [if_neg h2]
      have d2 : (op == 20) = false := by simpa using h2
      clear h1
      go_enter Tryz.func64, Tryz.ntmps64
      go_wp2_with fail
      go_returns
      exact ⟨_, rfl, ⟨_, 0, rfl, Nat.le_refl _, by decide, fun h => absurd h (by simp)⟩, by go_grown⟩
  · rw [if_pos rfl]
    rcases leadsP_cases h1 with rfl | rfl | rfl | rfl | rfl
    all_goals
      clear h1
      go_enter Tryz.func64, Tryz.ntmps64
      go_wp2_with fail
      go_returns
      refine ⟨_, rfl, ?_, by go_grown⟩
      have h := fun (o : Int) => sl_one (w.alloc (.cells #[.int .i64 o, .int .i64 a, .int .i64 b, .string s] 57)) a ha 3 w.heap.size (by simp)
      first | simpa using h 8 | simpa using h 9 | simpa using h 12 | simpa using h 13 | simpa using h 18

def newI (ps : List Int) (x : GIns) : GIns := if leadsP x.op then ⟨x.op, (cntLt ps x.a : Nat), x.b, x.s⟩ else if x.op = 20 then ⟨x.op, x.a, (cntLt ps x.b : Nat), x.s⟩ else x
def badI (ps : List Int) (x : GIns) : Bool := (tgtP x).any fun t => decide (ps.length ≤ cntLt ps t)
def insAt (is : List GIns) (p : Int) : GIns := is[p.toNat]?.getD ⟨0, 0, 0, ⟨#[]⟩⟩
/-- Place k is in the code, and greater than the one before it. -/
def plAt (n : Nat) (ps : List Int) (k : Nat) : Bool := decide (0 ≤ ps[k]?.getD 0 ∧ ps[k]?.getD 0 ≤ (n : Int) - 1) && (k == 0 || decide (ps[k - 1]?.getD 0 < ps[k]?.getD 0))
def allPl (n : Nat) (ps : List Int) : Bool := (List.range ps.length).all (plAt n ps)
def keepP (c : GCode) (ps : List Int) : Option GCode :=
  if codeOk c && (decide (0 < ps.length) && (allPl c.ins.length ps && !(ps.any fun p => badI ps (insAt c.ins p)))) then some ⟨ps.map fun p => newI ps (insAt c.ins p), c.pats⟩ else none
def KeepPost (o : Option GCode) (w : World) (e : Ending) (w' : World) : Prop :=
  ∃ r' bs, e = .returned (.tuple #[.agg r'.toArray, .bool o.isSome]) ∧ GCode.O bs w' r' (o.getD ⟨[], []⟩) ∧ bs.Nodup ∧ (∀ b ∈ bs, w.heap.size ≤ b) ∧ Below w.heap.size w w'
theorem KeepPost.zero {w W : World} (hb : Below w.heap.size w W) : KeepPost none w (.returned (.tuple #[.agg #[.slice none 0 0, .slice none 0 0], .bool false])) W :=
  ⟨[.slice none 0 0, .slice none 0 0], [], rfl, ⟨_, [], _, [], rfl, rfl, trivial, SlO.nil, SlO.nil⟩, List.nodup_nil, fun b hb => by (cases hb), hb⟩
theorem keep_notok {c : GCode} {ps : List Int} (h : codeOk c = false) : keepP c ps = none := by unfold keepP; rw [h]; rfl
theorem keep_empty {c : GCode} {ps : List Int} (h : ps.length = 0) : keepP c ps = none := by
  unfold keepP; rw [decide_eq_false (show ¬ 0 < ps.length by omega)]; simp
theorem keep_place {c : GCode} {ps : List Int} {k : Nat} (hk : k < ps.length) (h : plAt c.ins.length ps k = false) : keepP c ps = none := by
  have : allPl c.ins.length ps = false := by
    unfold allPl
    rw [List.all_eq_false]
    exact ⟨k, List.mem_range.2 hk, by rw [h]; decide⟩
  unfold keepP; rw [this]; simp
theorem keep_bad {c : GCode} {ps : List Int} {k : Nat} {p : Int} (hk : ps[k]? = some p) (h : badI ps (insAt c.ins p) = true) : keepP c ps = none := by
  have : (ps.any fun p => badI ps (insAt c.ins p)) = true := List.any_eq_true.2 ⟨p, List.mem_of_getElem? hk, h⟩
  unfold keepP; rw [this]; simp
theorem keep_good {c : GCode} {ps : List Int} (h0 : codeOk c = true) (h1 : 0 < ps.length) (h2 : ∀ k, k < ps.length → plAt c.ins.length ps k = true) (h3 : ∀ p ∈ ps, badI ps (insAt c.ins p) = false) : keepP c ps = some ⟨ps.map fun p => newI ps (insAt c.ins p), c.pats⟩ := by
  have h4 : (ps.any fun p => badI ps (insAt c.ins p)) = false := List.any_eq_false.2 fun p hp => by rw [h3 p hp]; decide
  have h5 : allPl c.ins.length ps = true := List.all_eq_true.2 fun k hk => h2 k (List.mem_range.1 hk)
  unfold keepP; rw [h0, h4, h5, decide_eq_true h1]; rfl
theorem plAt_in {n : Nat} {ps : List Int} {k : Nat} {p : Int} (h : plAt n ps k = true) (hp : ps[k]? = some p) : ∃ j : Nat, p = (j : Int) ∧ j < n := by
  unfold plAt at h
  rw [hp] at h
  simp only [Option.getD_some, Bool.and_eq_true, decide_eq_true_eq] at h
  exact ⟨p.toNat, by omega, by omega⟩
theorem plAt_rising {n : Nat} {ps : List Int} (h : ∀ k, k < ps.length → plAt n ps k = true) : Rising ps := by
  have hs : ∀ k p q, ps[k]? = some p → ps[k + 1]? = some q → p < q := fun k p q hp hq => by
    have h1 := h (k + 1) (List.getElem?_eq_some_iff.1 hq).1
    unfold plAt at h1
    simp only [Nat.add_sub_cancel, hp, hq, Option.getD_some, Bool.and_eq_true, Bool.or_eq_true, decide_eq_true_eq, beq_iff_eq] at h1
    omega
  intro i j p q hij hp hq
  obtain ⟨d, rfl⟩ : ∃ d, j = i + 1 + d := ⟨j - (i + 1), by omega⟩
  clear hij
  induction d generalizing q with
  | zero => exact hs i p q hp hq
  | succ d ih =>
    obtain ⟨m, hm⟩ : ∃ m, ps[i + 1 + d]? = some m := ⟨_, List.getElem?_eq_getElem (by have := (List.getElem?_eq_some_iff.1 hq).1; omega)⟩
    have h1 := ih m hm
    have h2 := hs (i + 1 + d) m q hm (by rw [← hq]; congr 1)
    omega
theorem tgt_len (x : GIns) : (tgtP x).length ≤ 1 := by
  unfold tgtP
  split
  · simp
  · split <;> simp
theorem newI_none {ps : List Int} {x : GIns} (h : (tgtP x).length = 0) : newI ps x = x ∧ badI ps x = false := by
  unfold badI newI
  unfold tgtP at h ⊢
  split at h
  · simp at h
  · split at h
    · simp at h
    · rename_i h1 h2
      rw [if_neg h1, if_neg h2, if_neg h1, if_neg h2]
      exact ⟨rfl, rfl⟩
theorem newI_leads {ps : List Int} {x : GIns} (h : leadsP x.op = true) : tgtP x = [x.a] ∧ newI ps x = ⟨x.op, (cntLt ps x.a : Nat), x.b, x.s⟩ ∧ badI ps x = decide (ps.length ≤ cntLt ps x.a) := by
  unfold badI newI tgtP
  rw [if_pos h, if_pos h]
  exact ⟨rfl, rfl, by simp⟩
theorem newI_arm {ps : List Int} {x : GIns} (h : x.op = 20) : tgtP x = [x.b] ∧ newI ps x = ⟨x.op, x.a, (cntLt ps x.b : Nat), x.s⟩ ∧ badI ps x = decide (ps.length ≤ cntLt ps x.b) := by
  have h1 : ¬ leadsP x.op = true := by rw [h]; decide
  unfold badI newI tgtP
  rw [if_neg h1, if_neg h1, if_pos h, if_pos h]
  exact ⟨rfl, rfl, by simp⟩
theorem leads_not20 {op : Int} (h : leadsP op = true) : (op == 20) = false := by
  rcases leadsP_cases h with rfl | rfl | rfl | rfl | rfl <;> rfl
theorem newI_wf {ps : List Int} {x : GIns} (h : x.wf) (hp : ps.length ≤ 1048576) : (newI ps x).wf := by
  obtain ⟨h0, h1, h2, h3⟩ := h
  have hc : ∀ y, I64 ((cntLt ps y : Nat) : Int) := fun y => by have := cntLt_le ps y; constructor <;> omega
  unfold newI
  split
  · exact ⟨h0, hc _, h2, h3⟩
  · split
    · exact ⟨h0, h1, hc _, h3⟩
    · exact ⟨h0, h1, h2, h3⟩
theorem codeOk_b0 {c : GCode} (h : codeOk c = true) : ∀ x ∈ c.ins, x.op ≠ 20 → x.b = 0 := fun x hx h20 => by
  have h1 := (codeOk_all h).2.2.2 x hx
  unfold insOkP at h1
  rw [if_neg h20] at h1
  repeat' split at h1
  all_goals (simp only [Bool.and_eq_true, beq_iff_eq] at h1; first | exact h1.2.1 | exact h1.2 | exact h1.2.2.1)

end Go.Proofs.YtfobkbjabenkkaaGreat

/- Reached: GoesOn of both; the program's loop (NOT BUILT YET: typed while a hand-in ran). -/
namespace Go.Proofs.YtfobkbjabenkkaaGreat
open Go.RowKit
set_option linter.unusedVariables false
set_option linter.unusedSimpArgs false
attribute [local go_sem] Ext.cell

def goesOn (op : Int) : Bool := op != 12 && (op != 11 && (op != 17 && op != 21))
set_option maxHeartbeats 4000000 in
theorem GoesOn_c (x : GIns) (r : List Value) (lo : Nat) (w : World) (hr : GIns.R lo w r x) :
    Calls Tryz.prog 83 #[.agg r.toArray] w fun e w' => e = .returned (.bool (goesOn x.op)) ∧ Below w.heap.size w w' := by
  obtain ⟨op, a, b, s⟩ := x
  obtain ⟨rfl, ho, ha, hb, hs⟩ := hr
  dsimp only at *
  unfold goesOn
  cases h1 : (op == 12) <;> cases h2 : (op == 11) <;> cases h3 : (op == 17) <;> cases h4 : (op == 21)
  all_goals
    go_enter Tryz.func83, Tryz.ntmps83
    go_wp2_with fail
  all_goals go_returns
  all_goals refine ⟨?_, by go_grown⟩
  all_goals first | rfl | (simp_all [bne]; done) | (simp_all [bne, Bool.and_assoc]; done)
set_option maxHeartbeats 4000000 in
theorem specGoesOn_c (x : GIns) (r : List Value) (lo : Nat) (w : World) (hr : GIns.R lo w r x) :
    Calls Tryz.prog 91 #[.agg r.toArray] w fun e w' => e = .returned (.bool (goesOn x.op)) ∧ Below w.heap.size w w' := by
  obtain ⟨op, a, b, s⟩ := x
  obtain ⟨rfl, ho, ha, hb, hs⟩ := hr
  dsimp only at *
  unfold goesOn
  cases h1 : (op == 12) <;> cases h2 : (op == 11) <;> cases h3 : (op == 17) <;> cases h4 : (op == 21)
  all_goals
    go_enter Tryz.func91, Tryz.ntmps91
    go_wp2_with fail
  all_goals go_returns
  all_goals refine ⟨?_, by go_grown⟩
  all_goals first | rfl | (simp_all [bne]; done) | (simp_all [bne, Bool.and_assoc]; done)

def boolRow (b : Bool) : List Value := [.bool b]
theorem flatBool : Flat BoolR 1 boolRow (fun _ => True) := ⟨fun h => ⟨h, trivial⟩, fun _ _ _ => rfl, fun _ => rfl, fun _ u hu => by simp [boolRow] at hu; subst hu; rfl, by decide⟩
theorem made_false (n : Nat) : (madeCells #[.bool false] (n * 1)).toList = rowsOf boolRow (List.replicate n false) := by
  rw [Nat.mul_one]
  unfold madeCells
  induction n with
  | zero => simp [rowsOf]
  | succ n ih =>
    rw [List.replicate_succ', rowsOf_append, ← ih]
    simp [Array.range_succ, rowsOf, boolRow, Nat.mod_one]
/-- Where an instruction leads to, and whether what it needs is there. -/
def nxP (is : List GIns) (i : Nat) : List Nat := ((tgtP (insAt is (i : Int))).map fun t => t.toNat) ++ (if goesOn (insAt is (i : Int)).op then [i + 1] else [])
def okP (is : List GIns) (i : Nat) : Bool := !goesOn (insAt is (i : Int)).op || decide (i + 1 < is.length)
open Classical in
noncomputable def reachedP (c : GCode) : List Int := if codeOk c = true ∧ ∀ i, Rc (nxP c.ins) i → okP c.ins i = true then rcList (nxP c.ins) c.ins.length else []
theorem tgt_in {is : List GIns} (hL : LeadsIn is) (hA : ArmsIn is) {i : Nat} (hi : i < is.length) : ∀ t ∈ tgtP (insAt is (i : Int)), ∃ j : Nat, t = (j : Int) ∧ j < is.length := by
  have hx : insAt is (i : Int) = is[i] := by unfold insAt; rw [Int.toNat_natCast, List.getElem?_eq_getElem hi]; rfl
  have hm : is[i] ∈ is := List.getElem_mem hi
  rw [hx]
  intro t ht
  unfold tgtP at ht
  split at ht
  · rename_i h
    simp at ht; subst ht
    exact hL _ hm h
  · split at ht
    · rename_i h
      simp at ht; subst ht
      exact hA _ hm h
    · cases ht
theorem nx_in {is : List GIns} (hL : LeadsIn is) (hA : ArmsIn is) {i : Nat} (hi : i < is.length) (ho : okP is i = true) : ∀ j ∈ nxP is i, j < is.length := by
  intro j hj
  unfold nxP at hj
  rcases List.mem_append.1 hj with h | h
  · obtain ⟨t, ht, rfl⟩ := List.mem_map.1 h
    obtain ⟨q, rfl, hq⟩ := tgt_in hL hA hi t ht
    simpa using hq
  · unfold okP at ho
    split at h
    · rename_i hg
      simp at h; subst h
      rw [hg] at ho
      simpa using ho
    · cases h

end Go.Proofs.YtfobkbjabenkkaaGreat

/- Returns out of a code result's cells: done once, over any slots. -/
namespace Go.Proofs.YtfobkbjabenkkaaGreat
open Go.RowKit
set_option linter.unusedVariables false
set_option linter.unusedSimpArgs false

theorem ret_code {fn : Func} {tmps : Array Value} {a : Nat} {g : Nat} {v0 v1 : Value} {w : World} (hf : fn.results = #[.cell a 30]) (hp : tmps.getD a undef = .pointer (some ⟨g, 0, none⟩)) (h0 : w.cell? ⟨g, 0, none⟩ = some v0) (h1 : w.cell? ⟨g, 1, none⟩ = some v1) :
    (results fn tmps).run Tryz.prog w = .ok (.agg #[v0, v1]) w := by
  have hp' : tmps[a]?.getD undef = .pointer (some ⟨g, 0, none⟩) := by simpa using hp
  simp [results, hf, go_sem, hp', h0, h1]
theorem ret_code_tmp {fn : Func} {tmps : Array Value} {a b : Nat} {g : Nat} {v0 v1 u : Value} {w : World} (hf : fn.results = #[.cell a 30, .tmp b]) (hp : tmps.getD a undef = .pointer (some ⟨g, 0, none⟩)) (hb : tmps.getD b undef = u) (h0 : w.cell? ⟨g, 0, none⟩ = some v0) (h1 : w.cell? ⟨g, 1, none⟩ = some v1) :
    (results fn tmps).run Tryz.prog w = .ok (.tuple #[.agg #[v0, v1], u]) w := by
  have hp' : tmps[a]?.getD undef = .pointer (some ⟨g, 0, none⟩) := by simpa using hp
  have hb' : tmps[b]?.getD undef = u := by simpa using hb
  simp [results, hf, go_sem, hp', hb', h0, h1]

end Go.Proofs.YtfobkbjabenkkaaGreat

/- Contracts of the library at this program, printed by the kit's tools. -/
namespace Go.Proofs.YtfobkbjabenkkaaGreat
open Go.Shelf
def Tz.lays189_ren : Go.Shelf.Ren := ⟨fun | 189 => 84 | 125 => 101 | 257 => 100 | 128 => 123 | 129 => 124 | 294 => 115 | 295 => 116 | 296 => 117 | 297 => 118 | 298 => 119 | 299 => 120 | 216 => 113 | 300 => 121 | 301 => 122 | 328 => 129 | 329 => 130 | 330 => 131 | 331 => 132 | 332 => 133 | 215 => 128 | 343 => 135 | n => n, fun | 28 => 60 | 3 => 3 | 46 => 108 | 0 => 0 | 51 => 131 | 53 => 133 | 4 => 4 | 183 => 125 | 182 => 124 | 131 => 113 | 5 => 5 | 9 => 9 | 218 => 136 | 222 => 140 | 228 => 142 | 229 => 143 | n => n, fun | n => n⟩
theorem Tz.lays189 : Go.Proofs.Lays.n189 Tryz.prog Tz.lays189_ren := {
  mixed := by kernel_rfl
  f125 := Tryz.func101.trans (congrArg some (by kernel_rfl))
  f128 := Tryz.func123.trans (congrArg some (by kernel_rfl))
  f129 := Tryz.func124.trans (congrArg some (by kernel_rfl))
  f189 := Tryz.func84.trans (congrArg some (by kernel_rfl))
  f215 := Tryz.func128.trans (congrArg some (by kernel_rfl))
  f216 := Tryz.func113.trans (congrArg some (by kernel_rfl))
  f257 := Tryz.func100.trans (congrArg some (by kernel_rfl))
  f294 := Tryz.func115.trans (congrArg some (by kernel_rfl))
  f295 := Tryz.func116.trans (congrArg some (by kernel_rfl))
  f296 := Tryz.func117.trans (congrArg some (by kernel_rfl))
  f297 := Tryz.func118.trans (congrArg some (by kernel_rfl))
  f298 := Tryz.func119.trans (congrArg some (by kernel_rfl))
  f299 := Tryz.func120.trans (congrArg some (by kernel_rfl))
  f300 := Tryz.func121.trans (congrArg some (by kernel_rfl))
  f301 := Tryz.func122.trans (congrArg some (by kernel_rfl))
  f328 := Tryz.func129.trans (congrArg some (by kernel_rfl))
  f329 := Tryz.func130.trans (congrArg some (by kernel_rfl))
  f330 := Tryz.func131.trans (congrArg some (by kernel_rfl))
  f331 := Tryz.func132.trans (congrArg some (by kernel_rfl))
  f332 := Tryz.func133.trans (congrArg some (by kernel_rfl))
  f343 := Tryz.func135.trans (congrArg some (by kernel_rfl))
  t0 := Tryz.underlying0
  a0 := Tryz.isAgg0
  z0 := Tryz.sizeOf0
  v0 := Tryz.zeroValue0
  t3 := Tryz.underlying3
  a3 := Tryz.isAgg3
  z3 := Tryz.sizeOf3
  v3 := Tryz.zeroValue3
  t4 := Tryz.underlying4
  a4 := Tryz.isAgg4
  z4 := Tryz.sizeOf4
  v4 := Tryz.zeroValue4
  t5 := Tryz.underlying5
  a5 := Tryz.isAgg5
  z5 := Tryz.sizeOf5
  v5 := Tryz.zeroValue5
  t9 := Tryz.underlying9
  a9 := Tryz.isAgg9
  z9 := Tryz.sizeOf9
  v9 := Tryz.zeroValue9
  t28 := Tryz.underlying60
  a28 := Tryz.isAgg60
  z28 := Tryz.sizeOf60
  v28 := Tryz.zeroValue60
  t46 := Tryz.underlying108
  a46 := Tryz.isAgg108
  z46 := Tryz.sizeOf108
  v46 := Tryz.zeroValue108
  t51 := Tryz.underlying131
  a51 := Tryz.isAgg131
  z51 := Tryz.sizeOf131
  v51 := Tryz.zeroValue131
  t53 := Tryz.underlying133
  a53 := Tryz.isAgg133
  z53 := Tryz.sizeOf133
  v53 := Tryz.zeroValue133
  t131 := Tryz.underlying113
  a131 := Tryz.isAgg113
  z131 := Tryz.sizeOf113
  v131 := Tryz.zeroValue113
  t182 := Tryz.underlying124
  a182 := Tryz.isAgg124
  z182 := Tryz.sizeOf124
  v182 := Tryz.zeroValue124
  t183 := Tryz.underlying125
  a183 := Tryz.isAgg125
  z183 := Tryz.sizeOf125
  v183 := Tryz.zeroValue125
  t218 := Tryz.underlying136
  a218 := Tryz.isAgg136
  z218 := Tryz.sizeOf136
  v218 := Tryz.zeroValue136
  t222 := Tryz.underlying140
  a222 := Tryz.isAgg140
  z222 := Tryz.sizeOf140
  v222 := Tryz.zeroValue140
  t228 := Tryz.underlying142
  a228 := Tryz.isAgg142
  z228 := Tryz.sizeOf142
  v228 := Tryz.zeroValue142
  t229 := Tryz.underlying143
  a229 := Tryz.isAgg143
  z229 := Tryz.sizeOf143
  v229 := Tryz.zeroValue143 }
theorem Tryz.laid189 : True := trivial
end Go.Proofs.YtfobkbjabenkkaaGreat

/- slices.Sort at numbers, of a slice that the call owns. -/
namespace Go.Proofs.YtfobkbjabenkkaaGreat
open Go.RowKit
set_option linter.unusedVariables false
set_option linter.unusedSimpArgs false

theorem setCells_row (g : Nat) : ∀ (r : List Value) (w : World) (o : Nat), w.setCells g o r = storeRow w g o r
  | [], _, _ => rfl
  | c :: r, w, o => by rw [World.setCells, setCells_row g r, storeRow]
theorem ints_rows (l : List Int) : l.map (Value.int .i64) = rowsOf intRow l := by
  induction l with
  | nil => rfl
  | cons x l ih => rw [List.map_cons, ih]; rfl
theorem own_whole {lo : Nat} {w : World} {g cap : Nat} {zs ys : List Int} (h : OwnF 3 1 intRow I64 lo w (.slice (some ⟨g, 0, none⟩) zs.length cap) zs) (hl : ys.length = zs.length) (hy : ∀ y ∈ ys, I64 y) :
    OwnF 3 1 intRow I64 lo (storeRow w g 0 (rowsOf intRow ys)) (.slice (some ⟨g, 0, none⟩) ys.length cap) ys := by
  refine ⟨⟨by rw [flatInt.length], ?_⟩, hy⟩
  rcases h.1.2 with ⟨hv, _⟩ | ⟨g', cap', cur, hv, h1, h2, h3, h4, h5, h6⟩
  · cases hv
  · obtain ⟨rfl, rfl⟩ : g = g' ∧ cap = cap' := by injection hv with e1 e2 e3; injection e1 with e1; injection e1 with e1; exact ⟨e1, e3⟩
    have hr : (rowsOf intRow ys).length = ys.length := by rw [flatInt.length, Nat.mul_one]
    obtain ⟨cur', c1, c2, c3⟩ := storeRow_block g (rowsOf intRow ys) w 0 cur _ h2 (by rw [hr]; omega)
    refine .inr ⟨g, cap, cur', rfl, h1, c1, by omega, h4, by rw [c2, h5], ?_⟩
    rw [c3, List.take_zero, List.nil_append, List.take_append_of_le_length (by omega), List.take_of_length_le (by omega)]
theorem own_grow {lo : Nat} {w : World} {u : Value} {zs : List Int} (h : OwnF 3 1 intRow I64 lo w u zs) (os : Array Obj) : OwnF 3 1 intRow I64 lo (Sort.grow w os) u zs ∧ Below w.heap.size w (Sort.grow w os) := by
  have hb : Below w.heap.size w (Sort.grow w os) := by
    refine ⟨rfl, rfl, rfl, by simp [Sort.grow], fun b hb => ?_⟩
    simp [Sort.grow, Array.getElem?_append_left hb]
  exact ⟨h.below hb, hb⟩
theorem Sort_c (zs : List Int) (g cap lo : Nat) (w : World) (hz : zs.length ≤ 1048576) (h : OwnF 3 1 intRow I64 lo w (.slice (some ⟨g, 0, none⟩) zs.length cap) zs) :
    Calls Tryz.prog 84 #[.slice (some ⟨g, 0, none⟩) zs.length cap] w fun e w' => e = .returned (.tuple #[]) ∧ OwnF 3 1 intRow I64 lo w' (.slice (some ⟨g, 0, none⟩) zs.length cap) (zs.mergeSort fun x y => decide (x ≤ y)) ∧ Below lo w w' := by
  obtain ⟨hg1, hg2⟩ := h.base g rfl
  have hH : Sort.Holds (Value.int .i64) w g 0 zs.toArray := fun j hj => by
    have hj' : j < zs.length := by simpa using hj
    obtain ⟨g', cap', hv, h1, h2, h3, h4, h5, h6⟩ := own_cells h.1 (by omega)
    obtain rfl : g = g' := by injection hv with e1 e2 e3; injection e1 with e1; injection e1 with e1
    have h7 := h5 _ _ (flatInt.get (j := 0) (List.getElem?_eq_getElem hj') rfl)
    obtain ⟨c', h8, h9⟩ := h6 j (by omega)
    simp only [Nat.mul_one, Nat.zero_add, Nat.add_zero] at h7 h9 ⊢
    refine ⟨?_, h9⟩
    rw [h7, getElem!_pos _ j hj]
    simp
  refine (calls_of_every_depth fun D => AnyS.slices_Sort_int_alone Tz.lays189 D g 0 cap zs w hH hg2 (by omega)).mono ?_
  rintro e w' ⟨rfl, q, os, rfl⟩
  have hl : (zs.mergeSort fun x y => decide (x ≤ y)).length = zs.length := List.length_mergeSort _
  rw [Lib.sorted_world _ w g 0 q _ _ os hH (by rw [hl]; simp), setCells_row, ints_rows]
  have hd : Below w.heap.size w (w.drewN q) := ⟨rfl, rfl, rfl, Nat.le_refl _, fun _ _ => rfl⟩
  have h1 := h.below hd
  have h2 := own_whole h1 hl (fun y hy => h.2 y ((List.mergeSort_perm zs _).mem_iff.1 hy))
  rw [hl] at h2
  obtain ⟨h3, h4⟩ := own_grow h2 os
  refine ⟨rfl, h3, ?_⟩
  · exact ((hd.mono (Nat.le_of_lt (Nat.lt_of_le_of_lt hg1 hg2))).trans ((below_storeRow g _ _ 0).mono hg1)).trans (h4.mono (by rw [size_storeRow]; exact Nat.le_of_lt (Nat.lt_of_le_of_lt hg1 hg2)))

end Go.Proofs.YtfobkbjabenkkaaGreat
