/- Parts of the proof, merged: CodeOk2, CopyS, CopyS2, Thread2, Thread3. -/
import Derived.Deep.RegionLaw
import Derived.Test.YtklfepnokidnaaaSc33
/- CodeOk: the reference's. -/
namespace Go.Proofs.Ytklfepnokidnaaa
open Go.RowKit
set_option linter.unusedVariables false
set_option linter.unusedSimpArgs false
attribute [local go_sem] Ext.cell

theorem codeOk_badPat {c : GCode} {i : Nat} {q : GPat} (h : c.pats[i]? = some q) (hq : patOk (patD q) = false) : codeOk c = false := by
  have : (c.pats.any fun q => !patOk (patD q)) = true := List.any_eq_true.2 ⟨q, List.mem_of_getElem? h, by rw [hq]; rfl⟩
  unfold codeOk
  rw [this]
  simp
theorem codeOk_badIns {c : GCode} {i : Nat} {x : GIns} (h : c.ins[i]? = some x) (hq : insOkP c.ins.length c.pats.length x = false) : codeOk c = false := by
  have : (c.ins.any fun i => !insOkP c.ins.length c.pats.length i) = true := List.any_eq_true.2 ⟨x, List.mem_of_getElem? h, by rw [hq]; rfl⟩
  unfold codeOk
  rw [this]
  simp
theorem codeOk_good {c : GCode} (h0 : 1 ≤ c.ins.length) (h1 : c.ins.length ≤ 3000) (hP : ∀ q ∈ c.pats.take c.pats.length, patOk (patD q) = true) (hI : ∀ x ∈ c.ins.take c.ins.length, insOkP c.ins.length c.pats.length x = true) : codeOk c = true := by
  rw [List.take_length] at hP hI
  have h2 : (c.pats.any fun q => !patOk (patD q)) = false := List.any_eq_false.2 fun q hq => by rw [hP q hq]; decide
  have h3 : (c.ins.any fun i => !insOkP c.ins.length c.pats.length i) = false := List.any_eq_false.2 fun q hq => by rw [hI q hq]; decide
  unfold codeOk
  rw [h2, h3, decide_eq_true (by omega)]
  rfl
theorem codeOk_size {c : GCode} (h : ¬ (1 ≤ (c.ins.length : Int) ∧ (c.ins.length : Int) ≤ 3000)) : codeOk c = false := by
  unfold codeOk
  rw [decide_eq_false h]
  rfl

set_option maxRecDepth 100000 in
set_option maxHeartbeats 8000000 in
theorem specCodeOk_c (c : GCode) (hS : CodeSmall c) (r : List Value) (lo : Nat) (w : World) (hr : GCode.R lo w r c) :
    Calls Try.prog 11 #[.agg r.toArray] w fun e w' => e = .returned (.bool (codeOk c)) ∧ Below w.heap.size w w' := by
  obtain ⟨u0, u1, rfl, _, h0, h1⟩ := hr
  obtain ⟨ia, ic, rfl, il, im, h0⟩ := h0
  obtain ⟨pa, pc, rfl, pl, pm, h1⟩ := h1
  obtain ⟨hn0, hm0, hq⟩ := hS
  obtain ⟨n, hn⟩ : ∃ n, n = c.ins.length := ⟨_, rfl⟩
  obtain ⟨m, hm⟩ : ∃ m, m = c.pats.length := ⟨_, rfl⟩
  have cI := fun (op a b : Int) (s : ByteArray) (hs : StrOk s) (ha : I64 a) (hb : I64 b) (ho : I64 op) (ia pa : Option Addr) W => l10InsOk_flat op a b s hs ha hb ho ia pa c.ins.length c.pats.length ic pc hn0 hm0 W
  rw [← hn] at hn0 il
  rw [← hm] at hm0 pl
  rw [← hn, ← hm] at cI ⊢
  have hbadS := codeOk_size (c := c)
  have hgood := codeOk_good (c := c)
  have hbadI := fun i x => codeOk_badIns (c := c) (i := i) (x := x)
  have hbadP := fun i x => codeOk_badPat (c := c) (i := i) (q := x)
  rw [← hn] at hbadS
  rw [← hn, ← hm] at hgood hbadI
  have cP := fun (q : GPat) (hq : q ∈ c.pats) (r : List Value) (W : World) (hr : GPat.R lo W r q) => specPatOk_c (patD q) (by unfold patD; simp only [List.length_map]; rename_i hq2; exact hq2 q hq) r lo W (GPat.toData hr)
  replace hn := Lib.hid hn; replace hm := Lib.hid hm; replace h0 := Lib.hid h0; replace h1 := Lib.hid h1; replace cI := Lib.hid cI; replace cP := Lib.hid cP; replace hbadS := Lib.hid hbadS; replace hgood := Lib.hid hgood; replace hbadI := Lib.hid hbadI; replace hbadP := Lib.hid hbadP
  clear hq
  by_cases hs : n < 1
  · have d1 : decide ((n : Int) < 1) = true := decide_eq_true (by omega)
    have hres := Lib.hid (hbadS.out (by omega))
    go_enter Try.func11, Try.ntmps11
    go_wp2_with fail
    go_returns
    exact ⟨by rw [hres.out]; rfl, by go_grown⟩
  by_cases hb : 3000 < n
  · have d1 : decide ((n : Int) < 1) = false := decide_eq_false (by omega)
    have d2 : decide (3000 < (n : Int)) = true := decide_eq_true (by omega)
    have d2' : decide (3000 < n) = true := decide_eq_true (by omega)
    have hres := Lib.hid (hbadS.out (by omega))
    go_enter Try.func11, Try.ntmps11
    go_wp2_with fail
    go_returns
    exact ⟨by rw [hres.out]; rfl, by go_grown⟩
  have d1 : decide ((n : Int) < 1) = false := decide_eq_false (by omega)
  have d2 : decide (3000 < (n : Int)) = false := decide_eq_false (by omega)
  have d2' : decide (3000 < n) = false := decide_eq_false (by omega)
  go_enter Try.func11, Try.ntmps11
  go_upto_region 1 with fail
  have C : RowAt (w.alloc (.cells #[.slice ia n ic, .slice pa m pc] 31)) (w.heap.size) 0 [.slice ia n ic, .slice pa m pc] := RowAt.box w #[.slice ia n ic, .slice pa m pc] 31
  have hw : Below w.heap.size w (w.alloc (.cells #[.slice ia n ic, .slice pa m pc] 31)) := by go_grown
  generalize (w.alloc (.cells #[.slice ia n ic, .slice pa m pc] 31)) = w0 at *
  obtain ⟨c_0, c_1⟩ := C.box2; have hsC := World.block_lt_of_cell? _ _ c_0; dsimp only at hsC
  go_wp2_with fail
  go_loopw [20] (fun i wr => ∃ k : Nat, k ≤ m ∧ i = .int .i64 k ∧ Below w.heap.size w wr ∧ RowAt wr w.heap.size 0 [.slice ia n ic, .slice pa m pc] ∧ Hid (∀ y ∈ c.pats.take k, patOk (patD y) = true)) (fun i _ => m - (intOf i).toNat)
  case atStart => exact ⟨0, by omega, rfl, hw, C, fun y hy => by simp at hy⟩
  case round =>
    clear hw C c_0 c_1 hsC
    obtain ⟨k, hk, rfl, hw, C, hF⟩ := hrel
    obtain ⟨c_0, c_1⟩ := C.box2; have hsC := World.block_lt_of_cell? _ _ c_0; dsimp only at hsC
    by_cases hlt : k < m
    · obtain ⟨b1, o1, q, s1, _, rfl, P1, hx, r1⟩ := (h1.out.below GPat.good hw).get hm hlt
      have Hx := hx
      obtain ⟨u0, rfl, _, q0⟩ := hx
      obtain ⟨qa, qc, rfl⟩ := q0.form
      have e_0 : wr.cell? ⟨b1, o1 + k, none⟩ = some (.slice qa q.nodes.length qc) := by simpa using r1 0 _ rfl
      have hlow := hw.size
      go_upto_region 6 with fail
      obtain ⟨w1, hW1⟩ : ∃ W, W = wr.alloc (.cells #[.slice qa q.nodes.length qc] 41) := ⟨_, rfl⟩
      rw [← hW1]
      have hb1 : Below wr.heap.size wr w1 := by rw [hW1]; go_grown
      have D : RowAt w1 wr.heap.size 0 [.slice qa q.nodes.length qc] := by rw [hW1]; exact RowAt.box _ _ _
      have hw1 := hw.trans (hb1.mono hlow)
      have C := C.below hb1
      have cQ := cP.out q (List.mem_of_getElem? P1.out) _ w1 (GPat.good.below Hx hb1)
      have hbad := hbadP.out k q P1.out
      have hstep : patOk (patD q) = true → ∀ y ∈ c.pats.take (k + 1), patOk (patD y) = true := fun h y hy => by
        rw [take_snoc' P1.out] at hy
        rcases List.mem_append.1 hy with h' | h'
        · exact hF.out y h'
        · simp at h'; subst h'; exact h
      clear hW1 e_0 Hx q0 c_0 c_1 hsC hw hb1 r1 P1
      generalize patOk (patD q) = kq at *
      generalize q.nodes.length = nq at *
      replace cQ := Lib.hid cQ; replace hstep := Lib.hid hstep
      obtain ⟨c_0, c_1⟩ := C.box2; have hsC := World.block_lt_of_cell? _ _ c_0; dsimp only at hsC; have d_0 := D.box1; have hsD := World.block_lt_of_cell? _ _ d_0; dsimp only at hsD
      cases kq
      · have hres := Lib.hid (hbad rfl)
        clear hbad
        go_wp2_with (go_at_call 25; ((with_reducible refine (cQ.out).mono ?_); rintro e w2 ⟨rfl, hb⟩))
        go_returns
        exact ⟨by rw [hres.out]; rfl, hw1.trans (hb.mono hw1.size)⟩
      · clear hbad
        go_wp2_with (go_at_call 25; ((with_reducible refine (cQ.out).mono ?_); rintro e w2 ⟨rfl, hb⟩))
        go_roundw
        case rel => exact ⟨k + 1, by omega, by go_num, hw1.trans (hb.mono hw1.size), C.below hb, hstep.out (by trivial)⟩
        case measure => simp [intOf]; omega
    · obtain rfl : k = m := by omega
      go_wp2_with fail
      go_loopw [31] (fun i wr => ∃ j : Nat, j ≤ n ∧ i = .int .i64 j ∧ Below w.heap.size w wr ∧ RowAt wr w.heap.size 0 [.slice ia n ic, .slice pa k pc] ∧ Hid (∀ y ∈ c.ins.take j, insOkP n k y = true)) (fun i _ => n - (intOf i).toNat)
      case atStart => exact ⟨0, by omega, rfl, hw, C, fun y hy => by simp at hy⟩
      case round =>
        clear hw C c_0 c_1 hsC
        obtain ⟨j, hj, rfl, hw, C, hG⟩ := hrel
        obtain ⟨c_0, c_1⟩ := C.box2; have hsC := World.block_lt_of_cell? _ _ c_0; dsimp only at hsC
        by_cases hlt2 : j < n
        · obtain ⟨b1, o1, x, s1, _, rfl, P1, hx, r1⟩ := (h0.out.below GIns.good hw).get hn hlt2
          obtain ⟨op, a, b, s⟩ := x
          obtain ⟨rfl, hwo, hwa, hwb, hws⟩ := hx
          obtain ⟨e_0, e_1, e_2, e_3⟩ := r1.cells4
          dsimp only at *
          have hlow := hw.size
          go_upto_region 12 with fail
          obtain ⟨w1, hW1⟩ : ∃ W, W = wr.alloc (.cells #[.int .i64 op, .int .i64 a, .int .i64 b, .string s] 56) := ⟨_, rfl⟩
          rw [← hW1]
          have hb1 : Below wr.heap.size wr w1 := by rw [hW1]; go_grown
          have D : RowAt w1 wr.heap.size 0 [.int .i64 op, .int .i64 a, .int .i64 b, .string s] := by rw [hW1]; exact RowAt.box _ _ _
          have hw1 := hw.trans (hb1.mono hlow)
          have C := C.below hb1
          have cQ := cI.out op a b s hws hwa hwb hwo (some ⟨b1, o1, none⟩) pa w1
          have hbad := hbadI.out j _ P1.out
          have hstep : insOkP n k ⟨op, a, b, s⟩ = true → ∀ y ∈ c.ins.take (j + 1), insOkP n k y = true := fun h y hy => by
            rw [take_snoc' P1.out] at hy
            rcases List.mem_append.1 hy with h' | h'
            · exact hG.out y h'
            · simp at h'; subst h'; exact h
          clear hW1 e_0 e_1 e_2 e_3 c_0 c_1 hsC hw hb1 r1 P1
          generalize insOkP n k ⟨op, a, b, s⟩ = kq at *
          replace cQ := Lib.hid cQ; replace hstep := Lib.hid hstep
          obtain ⟨c_0, c_1⟩ := C.box2; have hsC := World.block_lt_of_cell? _ _ c_0; dsimp only at hsC; obtain ⟨d_0, d_1, d_2, d_3⟩ := D.box4; have hsD := World.block_lt_of_cell? _ _ d_0; dsimp only at hsD
          cases kq
          · have hres := Lib.hid (hbad rfl)
            clear hbad
            go_wp2_with (go_at_call 26; ((with_reducible refine (cQ.out).mono ?_); rintro e w2 ⟨rfl, hb⟩))
            go_returns
            exact ⟨by rw [hres.out]; rfl, hw1.trans (hb.mono hw1.size)⟩
          · clear hbad
            go_wp2_with (go_at_call 26; ((with_reducible refine (cQ.out).mono ?_); rintro e w2 ⟨rfl, hb⟩))
            go_roundw
            case rel => exact ⟨j + 1, by omega, by go_num, hw1.trans (hb.mono hw1.size), C.below hb, hstep.out (by trivial)⟩
            case measure => simp [intOf]; omega
        · obtain rfl : j = n := by omega
          have hres : codeOk c = true := hgood.out (by omega) (by omega) (hm.out ▸ hF.out) (hn.out ▸ hG.out)
          replace hres := Lib.hid hres
          go_wp2_with fail
          go_returns
          exact ⟨by rw [hres.out]; rfl, hw⟩

end Go.Proofs.Ytklfepnokidnaaa

/- The reference's copies: a pattern's, the call's own. -/
namespace Go.Proofs.Ytklfepnokidnaaa
open Go.RowKit
set_option linter.unusedVariables false
set_option linter.unusedSimpArgs false
attribute [local go_sem] Ext.cell

theorem RowAt.putC {w : World} {b j : Nat} {r : List Value} (h : RowAt w b 0 r) (hj : j < r.length) (u : Value) : RowAt (w.setCell ⟨b, j, none⟩ u) b 0 (r.set j u) := fun i c hc => by
  rw [Nat.zero_add]
  by_cases e : j = i
  · subst e
    rw [List.getElem?_set_self hj] at hc
    obtain rfl := Option.some.inj hc
    have := h j _ (List.getElem?_eq_getElem hj)
    rw [Nat.zero_add] at this
    exact cell_setCell_eq w b j _ this
  · rw [List.getElem?_set_ne e] at hc
    have := h i c hc
    rw [Nat.zero_add] at this
    exact (cell_setCell_ne w b j i _ e).trans this

end Go.Proofs.Ytklfepnokidnaaa

/- The reference's copies: a code's, the call's own. -/
namespace Go.Proofs.Ytklfepnokidnaaa
open Go.RowKit
set_option linter.unusedVariables false
set_option linter.unusedSimpArgs false
attribute [local go_sem] Ext.cell

end Go.Proofs.Ytklfepnokidnaaa

/- Thread: the plain law; a code's instructions that the call owns. -/
namespace Go.Proofs.Ytklfepnokidnaaa
open Go.RowKit
set_option linter.unusedVariables false
set_option linter.unusedSimpArgs false

def ArmsIn (is : List GIns) : Prop := ∀ x ∈ is, x.op = 20 → ∃ k : Nat, x.b = (k : Int) ∧ k < is.length
theorem codeOk_all {c : GCode} (h : codeOk c = true) : 1 ≤ c.ins.length ∧ c.ins.length ≤ 3000 ∧ (∀ q ∈ c.pats, patOk (patD q) = true) ∧ ∀ x ∈ c.ins, insOkP c.ins.length c.pats.length x = true := by
  unfold codeOk at h
  simp only [Bool.and_eq_true, decide_eq_true_eq, Bool.not_eq_true', List.any_eq_false] at h
  exact ⟨by omega, by omega, fun q hq => by have := h.2.1 q hq; simpa using this, fun x hx => by have := h.2.2 x hx; simpa using this⟩
theorem codeOk_leads {c : GCode} (h : codeOk c = true) : LeadsIn c.ins := fun x hx hl => by
  have h1 := (codeOk_all h).2.2.2 x hx
  unfold insOkP at h1
  rw [if_pos hl] at h1
  simp only [Bool.and_eq_true, decide_eq_true_eq] at h1
  exact ⟨x.a.toNat, by omega, by omega⟩
theorem codeOk_arms {c : GCode} (h : codeOk c = true) : ArmsIn c.ins := fun x hx hl => by
  have h1 := (codeOk_all h).2.2.2 x hx
  unfold insOkP at h1
  rw [if_neg (by rw [hl]; decide), if_pos hl] at h1
  simp only [Bool.and_eq_true, decide_eq_true_eq] at h1
  exact ⟨x.b.toNat, by omega, by omega⟩

def thrI (is : List GIns) (x : GIns) : GIns :=
  if x.op = 12 ∨ x.op = 13 then ⟨x.op, thr is x.a, x.b, x.s⟩ else if x.op = 20 then ⟨x.op, x.a, thr is x.b, x.s⟩ else x
def threadP (c : GCode) : GCode := if codeOk c then ⟨c.ins.map (thrI c.ins), c.pats⟩ else ⟨[], []⟩
/-- The first k have been changed. -/
def mapN {α : Type} (f : α → α) (xs : List α) (k : Nat) : List α := (xs.take k).map f ++ xs.drop k
theorem mapN_zero {α : Type} (f : α → α) (xs : List α) : mapN f xs 0 = xs := by simp [mapN]
theorem mapN_all {α : Type} (f : α → α) (xs : List α) {k : Nat} (h : k = xs.length) : mapN f xs k = xs.map f := by subst h; simp [mapN]
theorem mapN_length {α : Type} (f : α → α) (xs : List α) (k : Nat) : (mapN f xs k).length = xs.length := by
  unfold mapN; rw [List.length_append, List.length_map, List.length_take, List.length_drop]; omega
theorem mapN_get {α : Type} {f : α → α} {xs : List α} {k : Nat} {x : α} (h : xs[k]? = some x) : (mapN f xs k)[k]? = some x := by
  have hk := (List.getElem?_eq_some_iff.1 h).1
  unfold mapN
  rw [List.getElem?_append_right (by rw [List.length_map, List.length_take]; omega), List.length_map, List.length_take, Nat.min_eq_left (by omega), Nat.sub_self, List.getElem?_drop, Nat.add_zero, h]
theorem mapN_step {α : Type} {f : α → α} {xs : List α} {k : Nat} {x : α} (h : xs[k]? = some x) : (mapN f xs k).set k (f x) = mapN f xs (k + 1) := by
  have hk := (List.getElem?_eq_some_iff.1 h).1
  unfold mapN
  rw [take_snoc' h, List.map_append, List.set_append_right _ _ (by rw [List.length_map, List.length_take]; omega), List.length_map, List.length_take, Nat.min_eq_left (by omega), Nat.sub_self, List.drop_eq_getElem_cons hk, List.set_cons_zero]
  simp
theorem mapN_same {α : Type} {f : α → α} {xs : List α} {k : Nat} {x : α} (h : xs[k]? = some x) (hf : f x = x) : mapN f xs (k + 1) = mapN f xs k := by
  rw [← mapN_step h, hf]
  have h1 := mapN_get (f := f) h
  obtain ⟨h2, h3⟩ := List.getElem?_eq_some_iff.1 h1
  rw [← h3, List.set_getElem_self]

theorem slO_own {bs : List Nat} {w : World} {v : Value} {xs : List GIns} (h : SlO 56 4 GIns.O bs w v xs) (h0 : 0 < xs.length) :
    ∃ g cap, v = .slice (some ⟨g, 0, none⟩) xs.length cap ∧ bs = [g] ∧ OwnF 56 4 insRow GIns.wf 0 w v xs := by
  rcases h with ⟨rfl, _⟩ | ⟨ps, ⟨rows, h1, h2⟩, rfl⟩
  · simp at h0
  · obtain ⟨g, cap, rfl, _⟩ := own_cells h1 h0
    have hp : ps.flatten = [] := by
      rw [List.flatten_eq_nil_iff]
      intro p hp
      exact h2.all (P := fun p => p = []) hp fun r x h => h.1
    have hr : rows = xs.map insRow := by
      refine List.ext_getElem? fun i => ?_
      rw [List.getElem?_map]
      cases hx : xs[i]? with
      | none => rw [List.getElem?_eq_none (by rw [h2.lr]; exact List.getElem?_eq_none_iff.1 hx)]; rfl
      | some x => obtain ⟨p, r, _, hr, _, ho⟩ := h2.at hx; rw [hr, ho.2.1]; rfl
    refine ⟨g, cap, rfl, by rw [fpO_slice, hp], ⟨by unfold rowsOf; rw [List.flatMap_def, ← hr]; exact h1, fun x hx => ?_⟩⟩
    obtain ⟨i, hi, rfl⟩ := List.getElem_of_mem hx
    obtain ⟨p, r, _, _, _, ho⟩ := h2.at (List.getElem?_eq_getElem hi)
    exact ho.2.2
theorem own_slO {w : World} {g cap n : Nat} {xs : List GIns} (h : OwnF 56 4 insRow GIns.wf 0 w (.slice (some ⟨g, 0, none⟩) n cap) xs) : SlO 56 4 GIns.O [g] w (.slice (some ⟨g, 0, none⟩) n cap) xs := by
  have hp : (xs.map fun _ => ([] : List Nat)).flatten = [] := by
    rw [List.flatten_eq_nil_iff]; intro p hp; obtain ⟨_, _, rfl⟩ := List.mem_map.1 hp; rfl
  have hG : GrowO 56 4 GIns.O 0 w (.slice (some ⟨g, 0, none⟩) n cap) (xs.map fun _ => []) xs := ⟨xs.map insRow, by have := h.1; unfold rowsOf at this; rwa [List.flatMap_def] at this, ⟨by simp, by simp, fun r hr => by obtain ⟨x, _, rfl⟩ := List.mem_map.1 hr; rfl, fun i p r x h1 h2 h3 => by
    rw [List.getElem?_map, h3] at h1 h2
    simp at h1 h2
    exact ⟨by first | exact h1 | exact h1.symm, by first | exact h2 | exact h2.symm, h.2 x (List.mem_of_getElem? h3)⟩⟩⟩
  have := hG.slO
  rwa [fpO_slice, hp] at this
theorem ins_store {lo : Nat} {w : World} {g cap n k t : Nat} {xs : List GIns} {x x' : GIns} {u : Value} {off : Nat} (h : OwnF 56 4 insRow GIns.wf lo w (.slice (some ⟨g, 0, none⟩) n cap) xs) (hn : n = xs.length) (hx : xs[k]? = some x) (ht : t < 4) (ho : off = k * 4 + t)
    (hr : (insRow x).set t u = insRow x') (hwf : x'.wf) : OwnF 56 4 insRow GIns.wf lo (w.setCell ⟨g, off, none⟩ u) (.slice (some ⟨g, 0, none⟩) n cap) (xs.set k x') := by
  subst hn; subst ho
  have hk := (List.getElem?_eq_some_iff.1 hx).1
  refine ⟨?_, fun y hy => ?_⟩
  · have h1 := own_set h.1 (off := k * 4 + t) (by have := Nat.mul_le_mul_right 4 (show k + 1 ≤ xs.length from hk); rw [Nat.succ_mul] at this; omega) u
    rw [List.length_set]
    have e : (rowsOf insRow xs).set (k * 4 + t) u = rowsOf insRow (xs.set k x') := by
      unfold rowsOf
      rw [List.flatMap_def, List.flatMap_def, flat_set (rows := xs.map insRow) (fun r hr => by obtain ⟨x, _, rfl⟩ := List.mem_map.1 hr; rfl) u (r := insRow x) (by rw [List.getElem?_map, hx]; rfl) ht, hr, List.map_set]
    rw [← e]
    exact h1
  · rcases List.mem_or_eq_of_mem_set hy with h1 | rfl
    · exact h.2 y h1
    · exact hwf
theorem ins_cell {lo : Nat} {w : World} {g cap n k t : Nat} {xs : List GIns} {x : GIns} {u : Value} {off : Nat} (h : OwnF 56 4 insRow GIns.wf lo w (.slice (some ⟨g, 0, none⟩) n cap) xs) (hx : xs[k]? = some x) (hr : (insRow x)[t]? = some u) (ho : off = k * 4 + t) :
    w.cell? ⟨g, off, none⟩ = some u ∧ w.frozen? ⟨g, off, none⟩ = false := by
  subst ho
  have hk := (List.getElem?_eq_some_iff.1 hx).1
  obtain ⟨g', cap', hv, h1, h2, h3, h4, h5, h6⟩ := own_cells h.1 (by omega)
  obtain rfl : g = g' := by injection hv with e1 e2 e3; injection e1 with e1; injection e1
  have h7 := h5 _ _ (flatIns.get hx hr)
  have ht : t < 4 := by have := (List.getElem?_eq_some_iff.1 hr).1; exact this
  obtain ⟨c', h8, h9⟩ := h6 (k * 4 + t) (by have := Nat.mul_le_mul_right 4 (show k + 1 ≤ xs.length from hk); rw [Nat.succ_mul] at this; omega)
  rw [Nat.zero_add] at h7 h9
  exact ⟨h7, h9⟩

end Go.Proofs.Ytklfepnokidnaaa

/- Thread: the program's. -/
namespace Go.Proofs.Ytklfepnokidnaaa
open Go.RowKit
set_option linter.unusedVariables false
set_option linter.unusedSimpArgs false
attribute [local go_sem] Ext.cell

theorem CodeCopy.small {c : GCode} (h : CodeCopy c) : CodeSmall c := ⟨Nat.le_trans h.1 (by decide), Nat.le_trans h.2.1 (by decide), fun q hq => Nat.le_trans (h.2.2 q hq).1 (by decide)⟩
theorem CopyPost.zero {w W : World} (hb : Below w.heap.size w W) : CopyPost ⟨[], []⟩ w (.returned (.agg #[.slice none 0 0, .slice none 0 0])) W :=
  ⟨[.slice none 0 0, .slice none 0 0], [], rfl, ⟨_, [], _, [], rfl, rfl, trivial, SlO.nil, SlO.nil⟩, List.nodup_nil, fun b hb => by (cases hb), hb⟩
theorem CopyPost.cast {c d : GCode} {w W : World} {e : Ending} (h : CopyPost c w e W) (hd : c = d) : CopyPost d w e W := hd ▸ h

end Go.Proofs.Ytklfepnokidnaaa
