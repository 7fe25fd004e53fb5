/- Parts of the proof, merged: FindDNode, Eq, Ends, Ends2, Ends3, Order, Order2. -/
import Derived.Test.YtpblhonnknmjjaaRows
import Derived.Shelf.Abstract
import Derived.Laws.EntriesVeiled
import Derived.Test.YtpblhonnknmjjaaFd02
/- slices.ContainsFunc over []impl.DNode, with a closure that answers for each element and may make memory. -/
namespace Go.Proofs.Ytpblhonnknmjjaa
open Go.RowKit
set_option linter.unusedVariables false
set_option linter.unusedSimpArgs false
attribute [local go_sem] Ext.cell

set_option maxRecDepth 100000 in
set_option maxHeartbeats 4000000 in
theorem indexFuncDNode_c (xs : List GDNode) (p : GDNode → Bool) (g : Nat) (lb : Array Value) (lo : Nat) (u : Value) (w : World) (hu : Sl GDNode.R 4 lo w u xs)
    (hp : ∀ (i : Nat) x r W, xs[i]? = some x → Below w.heap.size w W → GDNode.R lo W r x → Calls Try.prog g (#[.agg r.toArray] ++ lb) W fun e w' => e = .returned (.bool (p x)) ∧ Below W.heap.size W w') (eg : ∀ args w, (callFunc g args).run Try.prog w = .ok (.enter g args) w) :
    Calls Try.prog 70 #[u, .func (.func g) #[] lb] w (IdxPost p xs w) := by
  obtain ⟨ua, uc, rfl, ul, um, h0⟩ := hu
  replace hp := Lib.hid hp
  replace h0 := Lib.hid h0
  obtain ⟨m, hm⟩ : ∃ m, m = xs.length := ⟨_, rfl⟩
  rw [← hm] at ul ⊢
  replace hm := Lib.hid hm
  go_enter Try.func70, Try.ntmps70
  go_wp2_with fail
  go_loopw [8] (fun i wr => ∃ k : Nat, k ≤ m ∧ i = .int .i64 k ∧ Below w.heap.size w wr ∧ Hid (∀ y ∈ xs.take k, p y = false)) (fun i _ => m - (intOf i).toNat)
  case atStart => exact ⟨0, by omega, rfl, Below.refl _ _, fun y hy => by simp at hy⟩
  case round =>
    obtain ⟨k, hk, rfl, hw, hF⟩ := hrel
    by_cases hlt : k < m
    · obtain ⟨b1, o1, x, r, _, rfl, P1, hx, r1⟩ := (h0.out.below GDNode.good hw).get hm hlt
      have hc := hp.out k x r wr P1.out hw hx
      obtain ⟨u0, rfl, hxf⟩ := id hx
      obtain ⟨e_0, e_1, e_2, e_3⟩ := r1.cells4
      clear r1 hx hxf
      replace P1 := P1
      generalize hq : p x = q at hc
      replace hq := Lib.hid hq
      cases q with
      | true =>
        go_wp2_with (go_at_fn g; refine hc.mono ?_; rintro e w1 ⟨rfl, hb⟩)
        go_returns
        exact ⟨k, rfl, by
          have : xs.any p = true := List.any_eq_true.2 ⟨x, List.mem_of_getElem? P1.out, hq.out⟩
          rw [this]; simp, hw.trans (hb.mono hw.size)⟩
      | false =>
        go_wp2_with (go_at_fn g; refine hc.mono ?_; rintro e w1 ⟨rfl, hb⟩)
        go_roundw
        case rel => exact ⟨k + 1, by omega, by go_num, hw.trans (hb.mono hw.size), by
          show ∀ y ∈ xs.take (k + 1), p y = false
          rw [take_snoc' P1.out]
          intro y hy
          rcases List.mem_append.1 hy with h | h
          · exact hF.out y h
          · simp at h; subst h; exact hq.out⟩
        case measure => simp [intOf]; omega
    · obtain rfl : k = m := by omega
      go_wp2_with fail
      go_returns
      exact ⟨-1, rfl, by
        have hF := hF.out
        rw [take_full hm] at hF
        have : xs.any p = false := List.any_eq_false.2 fun y hy => by rw [hF y hy]; simp
        rw [this]; simp, hw⟩

theorem containsFuncDNode_c (xs : List GDNode) (p : GDNode → Bool) (g : Nat) (lb : Array Value) (lo : Nat) (u : Value) (w : World) (hu : Sl GDNode.R 4 lo w u xs)
    (hp : ∀ (i : Nat) x r W, xs[i]? = some x → Below w.heap.size w W → GDNode.R lo W r x → Calls Try.prog g (#[.agg r.toArray] ++ lb) W fun e w' => e = .returned (.bool (p x)) ∧ Below W.heap.size W w') (eg : ∀ args w, (callFunc g args).run Try.prog w = .ok (.enter g args) w) :
    Calls Try.prog 44 #[u, .func (.func g) #[] lb] w fun e w' => e = .returned (.bool (xs.any p)) ∧ Below w.heap.size w w' := by
  have hc := indexFuncDNode_c xs p g lb lo u w hu hp eg
  replace hc : Calls Try.prog 70 #[u, .func (.func g) #[] lb] w fun e w' => ∃ n : Int, e = .returned (.int .i64 n) ∧ decide (0 ≤ n) = xs.any p ∧ Below w.heap.size w w' := hc
  clear hp
  generalize xs.any p = q at *
  obtain ⟨ua, uc, rfl⟩ := hu.form
  clear hu
  go_enter Try.func44, Try.ntmps44
  go_wp2_with (go_at_call 70; refine hc.mono ?_; rintro e w1 ⟨n, rfl, hn, hb⟩)
  go_returns
  exact ⟨rfl, hb⟩

end Go.Proofs.Ytpblhonnknmjjaa

/- The walks of the eq functions: two values are equal as data. Printed by gen_helpers.py. -/
namespace Go.Proofs.Ytpblhonnknmjjaa
open Go.RowKit
set_option linter.unusedVariables false
set_option linter.unusedSimpArgs false
attribute [local go_sem] Ext.cell


set_option maxHeartbeats 1000000 in
theorem eqIntS_c (x y : List Int) (u v : Value) (lo lo' : Nat) (w : World) (hx : Sl IntR 1 lo w u x) (hy : Sl IntR 1 lo' w v y) :
    Calls Try.prog 85 #[u, v] w fun e w' => e = .returned (.bool (decide (x = y))) ∧ Below w.heap.size w w' := by
  obtain ⟨a1, c1, rfl, l1, m1, h1⟩ := hx
  obtain ⟨a2, c2, rfl, l2, m2, h2⟩ := hy
  obtain ⟨n, hn⟩ : ∃ n, n = x.length := ⟨_, rfl⟩
  obtain ⟨m, hm⟩ : ∃ m, m = y.length := ⟨_, rfl⟩
  rw [← hn] at l1 ⊢
  rw [← hm] at l2 ⊢
  have X1 := Lib.hid hn; have X2 := Lib.hid hm
  clear hn hm
  by_cases hl : n = m
  · subst hl
    go_enter Try.func85, Try.ntmps85
    go_wp2_with fail
    go_loopw [5] (fun i wr => ∃ k : Nat, k ≤ n ∧ i = .int .i64 k ∧ Hid (x.take k = y.take k) ∧ Below w.heap.size w wr) (fun i _ => n - (intOf i).toNat)
    case atStart => exact ⟨0, by omega, rfl, rfl, Below.refl _ _⟩
    case round =>
      obtain ⟨k, hk, rfl, ht, hw⟩ := hrel
      by_cases hlt : k < n
      · obtain ⟨b1, o1, p, s1, _, rfl, P1, q1, r1⟩ := (h1.below IntR.good hw).get X1 hlt
        obtain ⟨b2, o2, q, s2, _, rfl, P2, q2, r2⟩ := (h2.below IntR.good hw).get X2 hlt
        obtain ⟨rfl, _⟩ := q1; obtain ⟨rfl, _⟩ := q2
        have R1 : ∀ z : Ext wr, z.val.cell? ⟨b1, o1 + k, none⟩ = some (.int .i64 p) := fun z => by simpa using (r1.ext z) 0 _ rfl
        have R2 : ∀ z : Ext wr, z.val.cell? ⟨b2, o2 + k, none⟩ = some (.int .i64 q) := fun z => by simpa using (r2.ext z) 0 _ rfl
        clear r1 r2
        go_wp2_with fail
        refine wp_region_ext_lit (by kernel_rfl) (by kernel_rfl) ?_
        repeat (go_big_quiet_step ((fail)))
        refine wpQuiet_nil ?_
        rintro _ ⟨⟨w2, hw2⟩, rfl⟩
        clear R1 R2
        have hw3 := hw.trans (hw2.mono hw.size)
        generalize hd : (p != q) = d
        have E := Lib.hid hd; clear hd
        cases d
        · have E := neq_of_int_false E.out
          have E := Lib.hid E
          go_wp2
          go_roundw
          case rel => exact ⟨k + 1, by omega, by go_num, by show _ = _; rw [take_snoc' P1.out, take_snoc' P2.out, ht.out, E.out], hw3⟩
          case measure => simp [intOf]; omega
        · have E := neq_of_int_true E.out
          have E := Lib.hid E
          go_wp2
          go_returns
          refine ⟨?_, hw3⟩
          have : x ≠ y := by
            rintro rfl
            exact E.out (Option.some.inj (P1.out.symm.trans P2.out))
          simp [this]
      · go_wp2
        go_returns
        refine ⟨?_, hw⟩
        obtain rfl : k = n := by omega
        have h1 : x = y := by
          have := ht.out
          rwa [take_full X1, take_full X2] at this
        simp [h1]
  · go_enter Try.func85, Try.ntmps85
    go_wp2
    go_returns
    refine ⟨?_, Below.refl _ _⟩
    have h1 : x ≠ y := by
      rintro rfl
      exact hl (X1.out.trans X2.out.symm)
    simp [h1]


set_option maxHeartbeats 1000000 in
theorem eqDNode_c (x y : GDNode) (r s : List Value) (lo lo' : Nat) (w : World) (hx : GDNode.R lo w r x) (hy : GDNode.R lo' w s y) :
    Calls Try.prog 65 #[.agg r.toArray, .agg s.toArray] w fun e w' => e = .returned (.bool (decide (x = y))) ∧ Below w.heap.size w w' := by
  obtain ⟨x0, x1, x2, x3⟩ := x
  obtain ⟨y0, y1, y2, y3⟩ := y
  obtain ⟨u0, rfl, ⟨wx0, wx1, wx2⟩, a0⟩ := hx
  obtain ⟨v0, rfl, ⟨wy0, wy1, wy2⟩, b0⟩ := hy
  dsimp only at *
  go_enter Try.func65, Try.ntmps65
  go_wp2_with (first | (go_at_call 85; ((with_reducible refine (eqIntS_c x3 y3 u0 v0 lo lo' _ ?_ ?_).mono ?_); exact a0.below IntR.good (by go_grown); exact b0.below IntR.good (by go_grown); rintro e w1 ⟨rfl, hb⟩; have hw : Below w.heap.size w w1 := Below.trans (by go_grown) (hb.mono (by go_grown)); obtain ⟨hc, hf⟩ := bcell hb; have hz := hw.size; have hz1 := hb.size; have hs0 : w.heap.size < w1.heap.size := (by have h := hz1; (try simp only [World.size_alloc, World.size_setCell, World.size_drew] at h); omega); have hs1 : w.heap.size + 1 < w1.heap.size := (by have h := hz1; (try simp only [World.size_alloc, World.size_setCell, World.size_drew] at h); omega); clear hb)))
  all_goals (go_returns; refine ⟨?_, by go_grown⟩; (try clear hc hf); simp_all [toList_eq] <;> grind)


set_option maxHeartbeats 1000000 in
theorem eqDNodeS_c (x y : List GDNode) (u v : Value) (lo lo' : Nat) (w : World) (hx : Sl GDNode.R 4 lo w u x) (hy : Sl GDNode.R 4 lo' w v y) :
    Calls Try.prog 34 #[u, v] w fun e w' => e = .returned (.bool (decide (x = y))) ∧ Below w.heap.size w w' := by
  obtain ⟨a1, c1, rfl, l1, m1, h1⟩ := hx
  obtain ⟨a2, c2, rfl, l2, m2, h2⟩ := hy
  obtain ⟨n, hn⟩ : ∃ n, n = x.length := ⟨_, rfl⟩
  obtain ⟨m, hm⟩ : ∃ m, m = y.length := ⟨_, rfl⟩
  rw [← hn] at l1 ⊢
  rw [← hm] at l2 ⊢
  have X1 := Lib.hid hn; have X2 := Lib.hid hm
  clear hn hm
  by_cases hl : n = m
  · subst hl
    go_enter Try.func34, Try.ntmps34
    go_wp2_with fail
    go_loopw [5] (fun i wr => ∃ k : Nat, k ≤ n ∧ i = .int .i64 k ∧ Hid (x.take k = y.take k) ∧ Below w.heap.size w wr) (fun i _ => n - (intOf i).toNat)
    case atStart => exact ⟨0, by omega, rfl, rfl, Below.refl _ _⟩
    case round =>
      obtain ⟨k, hk, rfl, ht, hw⟩ := hrel
      by_cases hlt : k < n
      · obtain ⟨b1, o1, p, s1, _, rfl, P1, q1, r1⟩ := (h1.below GDNode.good hw).get X1 hlt
        obtain ⟨b2, o2, q, s2, _, rfl, P2, q2, r2⟩ := (h2.below GDNode.good hw).get X2 hlt
        have Q1 := q1; have Q2 := q2
        obtain ⟨s0, rfl, _⟩ := q1; obtain ⟨t0, rfl, _⟩ := q2
        have R1 : ∀ z : Ext wr, z.val.cell? ⟨b1, o1 + k * 4, none⟩ = some (.int .i64 p.kind) ∧ z.val.cell? ⟨b1, o1 + k * 4 + 1, none⟩ = some (.int .i64 p.n) ∧ z.val.cell? ⟨b1, o1 + k * 4 + 2, none⟩ = some (.string p.s) ∧ z.val.cell? ⟨b1, o1 + k * 4 + 3, none⟩ = some (s0) := fun z => ⟨by simpa using (r1.ext z) 0 _ rfl, by simpa using (r1.ext z) 1 _ rfl, by simpa using (r1.ext z) 2 _ rfl, by simpa using (r1.ext z) 3 _ rfl⟩
        have R2 : ∀ z : Ext wr, z.val.cell? ⟨b2, o2 + k * 4, none⟩ = some (.int .i64 q.kind) ∧ z.val.cell? ⟨b2, o2 + k * 4 + 1, none⟩ = some (.int .i64 q.n) ∧ z.val.cell? ⟨b2, o2 + k * 4 + 2, none⟩ = some (.string q.s) ∧ z.val.cell? ⟨b2, o2 + k * 4 + 3, none⟩ = some (t0) := fun z => ⟨by simpa using (r2.ext z) 0 _ rfl, by simpa using (r2.ext z) 1 _ rfl, by simpa using (r2.ext z) 2 _ rfl, by simpa using (r2.ext z) 3 _ rfl⟩
        clear r1 r2
        go_wp2_with fail
        refine wp_region_ext_lit (by kernel_rfl) (by kernel_rfl) ?_
        repeat (go_big_quiet_step (((go_at_call 65; exact Calls.ext (eqDNode_c p q _ _ _ _ _ (GDNode.good.below Q1 (Subtype.property _)) (GDNode.good.below Q2 (Subtype.property _)))))))
        refine wpQuiet_nil ?_
        rintro _ ⟨⟨w2, hw2⟩, rfl⟩
        clear R1 R2
        have hw3 := hw.trans (hw2.mono hw.size)
        generalize hd : (decide (p = q)) = d
        have E := Lib.hid hd; clear hd
        cases d
        · have E := neq_of_dec_false E.out
          have E := Lib.hid E
          go_wp2
          go_returns
          refine ⟨?_, hw3⟩
          have : x ≠ y := by
            rintro rfl
            exact E.out (Option.some.inj (P1.out.symm.trans P2.out))
          simp [this]
        · have E := neq_of_dec_true E.out
          have E := Lib.hid E
          go_wp2
          go_roundw
          case rel => exact ⟨k + 1, by omega, by go_num, by show _ = _; rw [take_snoc' P1.out, take_snoc' P2.out, ht.out, E.out], hw3⟩
          case measure => simp [intOf]; omega
      · go_wp2
        go_returns
        refine ⟨?_, hw⟩
        obtain rfl : k = n := by omega
        have h1 : x = y := by
          have := ht.out
          rwa [take_full X1, take_full X2] at this
        simp [h1]
  · go_enter Try.func34, Try.ntmps34
    go_wp2
    go_returns
    refine ⟨?_, Below.refl _ _⟩
    have h1 : x ≠ y := by
      rintro rfl
      exact hl (X1.out.trans X2.out.symm)
    simp [h1]


set_option maxHeartbeats 1000000 in
theorem eqData_c (x y : GData) (r s : List Value) (lo lo' : Nat) (w : World) (hx : GData.R lo w r x) (hy : GData.R lo' w s y) :
    Calls Try.prog 16 #[.agg r.toArray, .agg s.toArray] w fun e w' => e = .returned (.bool (decide (x = y))) ∧ Below w.heap.size w w' := by
  obtain ⟨x0⟩ := x
  obtain ⟨y0⟩ := y
  obtain ⟨u0, rfl, _, a0⟩ := hx
  obtain ⟨v0, rfl, _, b0⟩ := hy
  dsimp only at *
  go_enter Try.func16, Try.ntmps16
  go_wp2_with (first | (go_at_call 34; ((with_reducible refine (eqDNodeS_c x0 y0 u0 v0 lo lo' _ ?_ ?_).mono ?_); exact a0.below GDNode.good (by go_grown); exact b0.below GDNode.good (by go_grown); rintro e w1 ⟨rfl, hb⟩; have hw : Below w.heap.size w w1 := Below.trans (by go_grown) (hb.mono (by go_grown)); obtain ⟨hc, hf⟩ := bcell hb; have hz := hw.size; have hz1 := hb.size; have hs0 : w.heap.size < w1.heap.size := (by have h := hz1; (try simp only [World.size_alloc, World.size_setCell, World.size_drew] at h); omega); have hs1 : w.heap.size + 1 < w1.heap.size := (by have h := hz1; (try simp only [World.size_alloc, World.size_setCell, World.size_drew] at h); omega); clear hb)))
  all_goals (go_returns; refine ⟨?_, by go_grown⟩; (try clear hc hf); simp_all [toList_eq] <;> grind)


end Go.Proofs.Ytpblhonnknmjjaa

/- Where the value at a place ends: plain law, and the reference's walk. -/
namespace Go.Proofs.Ytpblhonnknmjjaa
open Go.RowKit
set_option linter.unusedVariables false
set_option linter.unusedSimpArgs false
attribute [local go_sem] Ext.cell

def kidsEnd (E : Nat → Int) : Int → List Int → Int
  | next, [] => next
  | next, k :: ks => if k ≠ next then -1 else if E k.toNat < 0 then -1 else kidsEnd E (E k.toNat) ks
def ends (l : List GDNode) : Nat → Nat → Int
  | 0, _ => -1
  | f + 1, i => match l[i]? with
    | none => -1
    | some n => kidsEnd (ends l f) (i + 1) n.kids

theorem kidsEnd_range {E : Nat → Int} {L : Int} (hE : ∀ k, 0 ≤ E k → (k : Int) + 1 ≤ E k ∧ E k ≤ L) : ∀ (ks : List Int) (nx : Int), 0 ≤ nx → nx ≤ L → 0 ≤ kidsEnd E nx ks → nx ≤ kidsEnd E nx ks ∧ kidsEnd E nx ks ≤ L
  | [], nx, h0, hL, h => ⟨Int.le_refl _, hL⟩
  | k :: ks, nx, h0, hL, h => by
    unfold kidsEnd at h ⊢
    split at h
    · omega
    · split at h
      · omega
      · rename_i h1 h2
        have e : k = nx := by omega
        have h3 := hE k.toNat (by omega)
        have h4 := kidsEnd_range hE ks (E k.toNat) (by omega) h3.2 h
        rw [if_neg h1, if_neg h2]
        omega
theorem ends_range (l : List GDNode) : ∀ (f i : Nat), 0 ≤ ends l f i → (i : Int) + 1 ≤ ends l f i ∧ ends l f i ≤ l.length
  | 0, i, h => by simp [ends] at h
  | f + 1, i, h => by
    unfold ends at h ⊢
    cases hi : l[i]? with
    | none => rw [hi] at h; simp at h
    | some n =>
      rw [hi] at h
      have hlt := (List.getElem?_eq_some_iff.1 hi).1
      exact kidsEnd_range (ends_range l f) n.kids (i + 1) (by omega) (by omega) h

end Go.Proofs.Ytpblhonnknmjjaa

/- The reference's l07End. -/
namespace Go.Proofs.Ytpblhonnknmjjaa
open Go.RowKit
set_option linter.unusedVariables false
set_option linter.unusedSimpArgs false
attribute [local go_sem] Ext.cell

theorem ends_out {l : List GDNode} {i : Nat} (h : l.length ≤ i) : ∀ f, ends l f i = -1
  | 0 => rfl
  | f + 1 => by unfold ends; rw [List.getElem?_eq_none h]

set_option maxRecDepth 100000 in
set_option maxHeartbeats 2000000 in
theorem l07End_out (x : GData) (i : Nat) (r : List Value) (lo : Nat) (w : World) (hx : GData.R lo w r x) (hi : x.nodes.length ≤ i) :
    Calls Try.prog 25 #[.agg r.toArray, .int .i64 i] w fun e w' => e = .returned (.int .i64 (-1)) ∧ Below w.heap.size w w' := by
  obtain ⟨u0, rfl, -, a0⟩ := hx
  obtain ⟨pa, pc, rfl⟩ := a0.form
  have d1 : decide ((x.nodes.length : Int) ≤ i) = true := decide_eq_true (by omega)
  clear a0
  go_enter Try.func25, Try.ntmps25
  go_wp2
  go_returns
  exact ⟨rfl, by go_grown⟩

end Go.Proofs.Ytpblhonnknmjjaa

/- The reference's l07End, in range. -/
namespace Go.Proofs.Ytpblhonnknmjjaa
open Go.RowKit
set_option linter.unusedVariables false
set_option linter.unusedSimpArgs false
attribute [local go_sem] Ext.cell

set_option maxRecDepth 100000 in
set_option maxHeartbeats 4000000 in
theorem l07End_c (x : GData) (hL : x.nodes.length ≤ 1152921504606846976) : ∀ (f i : Nat) (r : List Value) (lo : Nat) (w : World), GData.R lo w r x → x.nodes.length < i + f →
    Calls Try.prog 25 #[.agg r.toArray, .int .i64 i] w fun e w' => e = .returned (.int .i64 (ends x.nodes f i)) ∧ Below w.heap.size w w'
  | 0, i, r, lo, w, hx, hf => by rw [ends_out (by omega)]; exact l07End_out x i r lo w hx (by omega)
  | f + 1, i, r, lo, w, hx, hf => by
    have ih := l07End_c x hL f
    have Hx := hx
    obtain ⟨u0, rfl, -, a0⟩ := hx
    obtain ⟨pa, pc, rfl⟩ := a0.form
    by_cases hlt : i < x.nodes.length
    · have d1 : decide ((x.nodes.length : Int) ≤ i) = false := decide_eq_false (by omega)
      have d1' : decide (x.nodes.length ≤ i) = false := decide_eq_false (by omega)
      obtain ⟨pa', pc', he, -, -, h0⟩ := a0
      obtain ⟨rfl, rfl⟩ : pa' = pa ∧ pc' = pc := by injection he with a b c; exact ⟨a.symm, c.symm⟩
      obtain ⟨b1, o1, n, s1, _, rfl, P1, q1, r1⟩ := h0.get (Lib.hid rfl) hlt
      obtain ⟨kv, rfl, -, k0⟩ := q1
      obtain ⟨ka, kc, rfl, kl, km, k0⟩ := k0
      have hends : ends x.nodes (f + 1) i = kidsEnd (ends x.nodes f) (i + 1) n.kids := by conv => lhs; unfold ends; rw [P1.out]
      rw [hends]
      have R1 : w.cell? ⟨b1, o1 + i * 4 + 3, none⟩ = some (.slice ka n.kids.length kc) := by simpa using r1 3 _ rfl
      obtain ⟨m, hm⟩ : ∃ m, m = n.kids.length := ⟨_, rfl⟩
      rw [← hm] at kl R1
      have X1 := Lib.hid hm
      clear hm hends r1 h0
      replace ih := Lib.hid ih
      replace k0 := Lib.hid k0
      go_enter Try.func25, Try.ntmps25
      go_upto_region 1 with fail
      have B : RowAt (w.alloc (.cells #[.slice (some ⟨b1, o1, none⟩) x.nodes.length pc'] 25)) (w.heap.size) 0 [.slice (some ⟨b1, o1, none⟩) x.nodes.length pc'] := RowAt.box w #[.slice (some ⟨b1, o1, none⟩) x.nodes.length pc'] 25
      have hw : Below w.heap.size w (w.alloc (.cells #[.slice (some ⟨b1, o1, none⟩) x.nodes.length pc'] 25)) := by go_grown
      generalize (w.alloc (.cells #[.slice (some ⟨b1, o1, none⟩) x.nodes.length pc'] 25)) = w0 at *
      replace R1 := cell_below hw R1
      have hb0 := B.box1
      go_wp2_with fail
      go_loopw [5, 22] (fun nx ii wr => ∃ (j : Nat) (z : Nat), j ≤ m ∧ i + 1 ≤ z ∧ z ≤ x.nodes.length ∧ nx = .int .i64 z ∧ ii = .int .i64 j ∧ Hid (kidsEnd (ends x.nodes f) (i + 1) n.kids = kidsEnd (ends x.nodes f) z (n.kids.drop j)) ∧ Below w.heap.size w wr ∧ RowAt wr w.heap.size 0 [.slice (some ⟨b1, o1, none⟩) x.nodes.length pc'] ∧ w.heap.size < wr.heap.size) (fun _ ii _ => m - (intOf ii).toNat)
      case atStart => exact ⟨0, i + 1, by omega, by omega, by omega, by simp, rfl, by simp [Hid], hw, B, World.block_lt_of_cell? _ _ hb0⟩
      case round =>
        clear hb0 R1 B hw
        obtain ⟨j, z, hj, hz1, hz2, rfl, rfl, hK, hw, B, hs⟩ := hrel
        have hb0 := B.box1
        by_cases hjm : j < m
        · obtain ⟨b2, o2, k, s2, _, rfl, P2, ⟨rfl, hk64⟩, r2⟩ := ((k0.out.below IntR.good hw).get X1 hjm)
          have e0 : wr.cell? ⟨b2, o2 + j, none⟩ = some (.int .i64 k) := by simpa using r2 0 _ rfl
          have hdrop : n.kids.drop j = k :: n.kids.drop (j + 1) := by
            obtain ⟨hjl, he⟩ := List.getElem?_eq_some_iff.1 P2.out
            rw [List.drop_eq_getElem_cons hjl, he]
          rw [hdrop] at hK
          clear r2 hdrop
          by_cases hkz : k = z
          · subst hkz
            have hK1 : kidsEnd (ends x.nodes f) (z : Int) (((z : Nat) : Int) :: n.kids.drop (j + 1)) = (if ends x.nodes f z < 0 then -1 else kidsEnd (ends x.nodes f) (ends x.nodes f z) (n.kids.drop (j + 1))) := by
              conv => lhs; unfold kidsEnd
              simp
            rw [Hid, hK1] at hK
            replace hK := Lib.hid hK
            clear hK1
            have c1 := fun W hW => ih.out z [.slice (some ⟨b1, o1, none⟩) x.nodes.length pc'] lo W hW (by omega)
            have hr := ends_range x.nodes f z
            generalize ends x.nodes f z = e at *
            replace hr := Lib.hid hr
            have hd : ((z : Int) != z) = false := by simp
            go_wp2_with fail
            refine (c1 _ (GData.good.below Hx hw)).mono ?_
            rintro e' w2 ⟨rfl, hb⟩
            have hw2 := hw.trans (hb.mono hw.size)
            have B2 := B.below hb
            have hs2 := Nat.lt_of_lt_of_le hs hb.size
            clear hb hb0 e0 B hw hs
            by_cases he : e < 0
            · have d2 : decide (e < 0) = true := decide_eq_true he
              rw [Hid, if_pos he] at hK
              replace hK := Lib.hid hK
              clear hr c1 he
              go_wp2
              go_returns
              exact ⟨by rw [hK.out]; rfl, hw2⟩
            · have d2 : decide (e < 0) = false := decide_eq_false he
              rw [Hid, if_neg he] at hK
              have hr' := hr.out (by omega)
              obtain ⟨z', rfl⟩ : ∃ z' : Nat, e = z' := ⟨e.toNat, by omega⟩
              replace hK := Lib.hid hK
              clear hr c1 he
              go_wp2
              go_roundw
              case rel => exact ⟨j + 1, z', by omega, by omega, by omega, rfl, by go_num, hK, hw2, B2, hs2⟩
              case measure => simp [intOf]; omega
          · have hK1 : kidsEnd (ends x.nodes f) (z : Int) (k :: n.kids.drop (j + 1)) = -1 := by
              conv => lhs; unfold kidsEnd
              rw [if_pos hkz]
            rw [Hid, hK1] at hK
            replace hK := Lib.hid hK
            clear hK1
            have hd : (k != (z : Int)) = true := by simpa using hkz
            clear hkz
            go_wp2
            go_returns
            exact ⟨by rw [hK.out]; rfl, hw⟩
        · obtain rfl : j = m := by omega
          rw [Hid, X1.out, List.drop_length] at hK
          replace hK := Lib.hid (hK.trans (by unfold kidsEnd; rfl : _ = (z : Int)))
          go_wp2
          go_returns
          exact ⟨by rw [hK.out]; rfl, hw⟩
    · rw [ends_out (by omega)]; exact l07End_out x i _ lo w Hx (by omega)

end Go.Proofs.Ytpblhonnknmjjaa

/- The program's test that nodes are a tree in preorder: its walk, against the plain law. -/
namespace Go.Proofs.Ytpblhonnknmjjaa
open Go.RowKit
set_option linter.unusedVariables false
set_option linter.unusedSimpArgs false
attribute [local go_sem] Ext.cell

/-- Where the value at a place ends, over whatever gives the children. -/
def endsK (n : Nat) (K : Nat → List Int) : Nat → Nat → Int
  | 0, _ => -1
  | f + 1, i => if n ≤ i then -1 else kidsEnd (endsK n K f) (i + 1) (K i)
theorem endsK_out {n : Nat} {K : Nat → List Int} {i : Nat} (h : n ≤ i) : ∀ f, endsK n K f i = -1
  | 0 => rfl
  | f + 1 => by unfold endsK; rw [if_pos h]
theorem endsK_range (n : Nat) (K : Nat → List Int) : ∀ (f i : Nat), 0 ≤ endsK n K f i → (i : Int) + 1 ≤ endsK n K f i ∧ endsK n K f i ≤ n
  | 0, i, h => by simp [endsK] at h
  | f + 1, i, h => by
    unfold endsK at h ⊢
    split at h
    · simp at h
    · rename_i hi
      rw [if_neg hi]
      exact kidsEnd_range (endsK_range n K f) (K i) (i + 1) (by omega) (by omega) h
theorem kidsEnd_congr {E F : Nat → Int} (h : ∀ k, E k = F k) (nx : Int) (ks : List Int) : kidsEnd E nx ks = kidsEnd F nx ks := by
  rw [show E = F from funext h]
theorem ends_eq (l : List GDNode) : ∀ f i, ends l f i = endsK l.length (fun i => (l[i]?.map (·.kids)).getD []) f i
  | 0, _ => rfl
  | f + 1, i => by
    unfold ends endsK
    cases hi : l[i]? with
    | none => rw [if_pos (by simpa using hi)]
    | some x =>
      rw [if_neg (by have := (List.getElem?_eq_some_iff.1 hi).1; omega)]
      show kidsEnd (ends l f) (i + 1) x.kids = _
      rw [kidsEnd_congr (ends_eq l f)]
      simp [hi]

/-- What is asked of the function that gives the children: at each place it hands back a slice that lies there already. -/
def KidsGive (n : Nat) (K : Nat → List Int) (g : Nat) (lb : Array Value) (lo : Nat) (w : World) : Prop :=
  ∀ i : Nat, i < n → ∃ v, Sl IntR 1 lo w v (K i) ∧ ∀ W, Below w.heap.size w W → Calls Try.prog g (#[.int .i64 i] ++ lb) W fun e w' => e = .returned v ∧ Below W.heap.size W w'

/-- The four boxes of the walk: the next place, how many, the children's function, the walk itself. -/
structure Four (w0 : World) (n g : Nat) (lb : Array Value) (b1 b2 b3 b4 : Nat) (z : Nat) (w : World) : Prop where
  below : Below w0.heap.size w0 w
  up : w0.heap.size ≤ b1
  le : z ≤ n
  c1 : w.cell? ⟨b1, 0, none⟩ = some (.int .i64 z)
  f1 : w.frozen? ⟨b1, 0, none⟩ = false
  c2 : w.cell? ⟨b2, 0, none⟩ = some (.int .i64 n)
  c3 : w.cell? ⟨b3, 0, none⟩ = some (.func (.func g) #[] lb)
  c4 : w.cell? ⟨b4, 0, none⟩ = some (.func (.func 69) #[] #[.pointer (some ⟨b1, 0, none⟩), .pointer (some ⟨b2, 0, none⟩), .pointer (some ⟨b3, 0, none⟩), .pointer (some ⟨b4, 0, none⟩)])

theorem Four.more {w0 : World} {n g : Nat} {lb : Array Value} {b1 b2 b3 b4 z : Nat} {w w' : World} (h : Four w0 n g lb b1 b2 b3 b4 z w) (hb : Below w.heap.size w w') : Four w0 n g lb b1 b2 b3 b4 z w' :=
  ⟨h.below.trans (hb.mono h.below.size), h.up, h.le, cell_below hb h.c1, by rw [hb.frozen (p := ⟨b1, 0, none⟩) (World.block_lt_of_cell? w _ h.c1), h.f1], cell_below hb h.c2, cell_below hb h.c3, cell_below hb h.c4⟩

theorem cell_setCell_block (w : World) (g o b o' : Nat) (u : Value) (h : b ≠ g) : (w.setCell ⟨g, o, none⟩ u).cell? ⟨b, o', none⟩ = w.cell? ⟨b, o', none⟩ :=
  World.cell?_of_block (w := w) (a := ⟨b, o', none⟩) (Below.heap_setCell w ⟨g, o, none⟩ u b h)

theorem Four.next {w0 : World} {n g : Nat} {lb : Array Value} {b1 b2 b3 b4 z : Nat} {w : World} (h : Four w0 n g lb b1 b2 b3 b4 z w) (h2 : b2 ≠ b1) (h3 : b3 ≠ b1) (h4 : b4 ≠ b1) (z' : Nat) (hz : z' ≤ n) : Four w0 n g lb b1 b2 b3 b4 z' (w.setCell ⟨b1, 0, none⟩ (.int .i64 z')) :=
  ⟨h.below.trans (Below.setCell (Below.refl _ w) (p := ⟨b1, 0, none⟩) h.up _), h.up, hz, cell_setCell_eq _ _ _ _ h.c1, by rw [frozen_setCell, h.f1], by rw [cell_setCell_block _ _ _ _ _ _ h2, h.c2], by rw [cell_setCell_block _ _ _ _ _ _ h3, h.c3], by rw [cell_setCell_block _ _ _ _ _ _ h4, h.c4]⟩

def WalkPost (n : Nat) (K : Nat → List Int) (g : Nat) (lb : Array Value) (w0 : World) (b1 b2 b3 b4 f z : Nat) (i : Int) (e : Ending) (w' : World) : Prop :=
  ∃ z' : Nat, e = .returned (.bool (decide (i = z ∧ 0 ≤ endsK n K f z))) ∧ Four w0 n g lb b1 b2 b3 b4 z' w' ∧ (i = z → 0 ≤ endsK n K f z → (z' : Int) = endsK n K f z)

set_option maxRecDepth 100000 in
set_option maxHeartbeats 4000000 in
theorem walk_c (n : Nat) (hn : n ≤ 1152921504606846976) (K : Nat → List Int) (g : Nat) (lb : Array Value) (lo : Nat) (w0 : World) (hk : KidsGive n K g lb lo w0) (eg : ∀ args w, (callFunc g args).run Try.prog w = .ok (.enter g args) w)
    (b1 b2 b3 b4 : Nat) (h2 : b2 ≠ b1) (h3 : b3 ≠ b1) (h4 : b4 ≠ b1) : ∀ (f z : Nat) (i : Int) (w : World), I64 i → n < z + f → Four w0 n g lb b1 b2 b3 b4 z w →
    Calls Try.prog 69 #[.int .i64 i, .pointer (some ⟨b1, 0, none⟩), .pointer (some ⟨b2, 0, none⟩), .pointer (some ⟨b3, 0, none⟩), .pointer (some ⟨b4, 0, none⟩)] w (WalkPost n K g lb w0 b1 b2 b3 b4 f z i)
  | 0, z, i, w, hi, hf, hF => absurd hF.le (by omega)
  | f + 1, z, i, w, hi, hf, hF => by
    have ih := walk_c n hn K g lb lo w0 hk eg b1 b2 b3 b4 h2 h3 h4 f
    replace ih := Lib.hid ih
    replace hk := Lib.hid hk
    obtain ⟨hi0, hi1⟩ := hi
    have e1 := hF.c1
    have e2 := hF.c2
    have e5 := hF.f1
    by_cases hiz : i = z
    · subst hiz
      have d1 : ((z : Int) != (z : Int)) = false := by simp
      by_cases hzn : z < n
      · have d2 : decide ((n : Int) ≤ (z : Int)) = false := decide_eq_false (by omega)
        have d2' : decide (n ≤ z) = false := decide_eq_false (by omega)
        obtain ⟨v, hv, hc⟩ := hk.out z hzn
        go_enter Try.func69, Try.ntmps69
        go_upto_region 4 with fail
        generalize hW : w.setCell ⟨b1, 0, none⟩ (.int .i64 ((z : Int) + 1)) = W
        have F1 : Four w0 n g lb b1 b2 b3 b4 (z + 1) W := by rw [← hW]; exact hF.next h2 h3 h4 (z + 1) hzn
        clear hW e1 e2 e5 hF
        have e3 := F1.c3
        replace hc := hc W F1.below
        have hends : endsK n K (f + 1) z = kidsEnd (endsK n K f) (z + 1) (K z) := by conv => lhs; unfold endsK; rw [if_neg (by omega)]
        obtain ⟨ka, kc, rfl, kl, km, k0⟩ := hv
        obtain ⟨m, hm⟩ : ∃ m, m = (K z).length := ⟨_, rfl⟩
        rw [← hm] at kl hc
        replace hm := Lib.hid hm
        replace hends := Lib.hid hends
        replace k0 := Lib.hid k0
        go_wp2_with (go_at_fn g; refine hc.mono ?_; rintro e w1 ⟨rfl, hb⟩)
        have F2 := F1.more hb
        clear e3 F1 hb hc
        go_loopw [23] (fun ii wr => ∃ (j : Nat) (z' : Nat), j ≤ m ∧ z + 1 ≤ z' ∧ ii = .int .i64 j ∧ Hid (kidsEnd (endsK n K f) (z + 1) (K z) = kidsEnd (endsK n K f) z' ((K z).drop j)) ∧ Four w0 n g lb b1 b2 b3 b4 z' wr) (fun ii _ => m - (intOf ii).toNat)
        case atStart => exact ⟨0, z + 1, by omega, by omega, by simp, by simp [Hid], F2⟩
        case round =>
          clear F2
          obtain ⟨j, z', hj, hz1, rfl, hK, F2⟩ := hrel
          by_cases hjm : j < m
          · obtain ⟨b5, o5, k, s5, _, rfl, P5, ⟨rfl, hk64⟩, r5⟩ := ((k0.out.below IntR.good F2.below).get hm hjm)
            have e0 : wr.cell? ⟨b5, o5 + j, none⟩ = some (.int .i64 k) := by simpa using r5 0 _ rfl
            have e4 := F2.c4
            have hdrop : (K z).drop j = k :: (K z).drop (j + 1) := by
              obtain ⟨hjl, he⟩ := List.getElem?_eq_some_iff.1 P5.out
              rw [List.drop_eq_getElem_cons hjl, he]
            rw [hdrop] at hK
            clear r5 hdrop
            have hcall := ih.out z' k wr hk64 (by omega) F2
            generalize hd : decide (k = (z' : Int) ∧ 0 ≤ endsK n K f z') = d
            replace hd := Lib.hid hd
            have hcall : Calls Try.prog 69 #[.int .i64 k, .pointer (some ⟨b1, 0, none⟩), .pointer (some ⟨b2, 0, none⟩), .pointer (some ⟨b3, 0, none⟩), .pointer (some ⟨b4, 0, none⟩)] wr fun e w' => ∃ z'' : Nat, e = .returned (.bool d) ∧ Four w0 n g lb b1 b2 b3 b4 z'' w' ∧ Hid (k = z' → 0 ≤ endsK n K f z' → (z'' : Int) = endsK n K f z') :=
              hcall.mono fun e w' ⟨z'', h1, h2, h3⟩ => ⟨z'', by rw [← hd.out]; exact h1, h2, h3⟩
            cases d with
            | true =>
              go_wp2_with (go_at_call 69; refine hcall.mono ?_; rintro e w1 ⟨z'', rfl, F3, hz''⟩)
              go_roundw
              case rel =>
                have hd := of_decide_eq_true hd.out
                have hz3 := hz''.out hd.1 hd.2
                have hr := (endsK_range n K f z' hd.2).1
                refine ⟨j + 1, z'', by omega, by omega, by go_num, ?_, F3⟩
                show _ = _
                rw [hK.out, hz3]
                conv => lhs; unfold kidsEnd
                rw [if_neg (by omega), hd.1, Int.toNat_natCast, if_neg (by omega)]
              case measure => simp [intOf]; omega
            | false =>
              go_wp2_with (go_at_call 69; refine hcall.mono ?_; rintro e w1 ⟨z'', rfl, F3, hz''⟩)
              go_returns
              have hd := of_decide_eq_false hd.out
              have hneg : endsK n K (f + 1) z = -1 := by
                rw [hends.out, hK.out]
                conv => lhs; unfold kidsEnd
                by_cases hkz : k = z'
                · rw [if_neg (by omega), hkz, Int.toNat_natCast, if_pos (by omega)]
                · rw [if_pos hkz]
              exact ⟨z'', by rw [hneg]; simp, F3, fun _ h => absurd h (by rw [hneg]; omega)⟩
          · obtain rfl : j = m := by omega
            go_wp2
            go_returns
            have hpos : endsK n K (f + 1) z = z' := by
              rw [hends.out, hK.out, hm.out, List.drop_length]
              unfold kidsEnd; rfl
            exact ⟨z', by rw [hpos]; simp, F2, fun _ _ => hpos.symm⟩
      · have d2 : decide ((n : Int) ≤ (z : Int)) = true := decide_eq_true (by omega)
        have d2' : decide (n ≤ z) = true := decide_eq_true (by omega)
        go_enter Try.func69, Try.ntmps69
        go_wp2_with fail
        go_returns
        refine ⟨z, ?_, hF, fun _ h => ?_⟩
        · rw [endsK_out (by omega)]; simp
        · rw [endsK_out (by omega)] at h; omega
    · have d1 : (i != (z : Int)) = true := by simpa using hiz
      go_enter Try.func69, Try.ntmps69
      go_wp2_with fail
      go_returns
      exact ⟨z, by simp [hiz], hF, fun h => absurd h hiz⟩

end Go.Proofs.Ytpblhonnknmjjaa

/- The program's inOrder. -/
namespace Go.Proofs.Ytpblhonnknmjjaa
open Go.RowKit
set_option linter.unusedVariables false
set_option linter.unusedSimpArgs false
attribute [local go_sem] Ext.cell

set_option maxRecDepth 100000 in
set_option maxHeartbeats 4000000 in
theorem inOrder_c (n : Nat) (hn : n ≤ 1152921504606846976) (K : Nat → List Int) (g : Nat) (lb : Array Value) (lo : Nat) (w : World) (hk : KidsGive n K g lb lo w) (eg : ∀ args w, (callFunc g args).run Try.prog w = .ok (.enter g args) w) :
    Calls Try.prog 42 #[.int .i64 n, .func (.func g) #[] lb] w fun e w' => e = .returned (.bool (decide (endsK n K (n + 1) 0 = n))) ∧ Below w.heap.size w w' := by
  have hw0 := walk_c n hn K g lb lo w hk eg (w.heap.size + 1 + 1) w.heap.size (w.heap.size + 1) (w.heap.size + 1 + 1 + 1) (by omega) (by omega) (by omega) (n + 1) 0 0
  replace hw0 := Lib.hid hw0
  clear hk
  go_enter Try.func42, Try.ntmps42
  go_upto_region 4 with fail
  have hfz : ((((w.alloc (.cells #[.int .i64 n] 3)).alloc (.cells #[.func (.func g) #[] lb] 75)).alloc (.cells #[.int .i64 0] 3)).alloc (.cells #[.func (.func 69) #[] #[.pointer (some ⟨w.heap.size + 1 + 1, 0, none⟩), .pointer (some ⟨w.heap.size, 0, none⟩), .pointer (some ⟨w.heap.size + 1, 0, none⟩), .pointer (some ⟨w.heap.size + 1 + 1 + 1, 0, none⟩)]] 99)).frozen? ⟨w.heap.size + 1 + 1, 0, none⟩ = false := by go_simp
  have B1 : RowAt (w.alloc (.cells #[.int .i64 n] 3)) (w.heap.size) 0 [.int .i64 n] := RowAt.box w #[.int .i64 n] 3
  have B1 := B1.below (show Below (w.alloc (.cells #[.int .i64 n] 3)).heap.size (w.alloc (.cells #[.int .i64 n] 3)) ((w.alloc (.cells #[.int .i64 n] 3)).alloc (.cells #[.func (.func g) #[] lb] 75)) by go_grown)
  have B2 : RowAt ((w.alloc (.cells #[.int .i64 n] 3)).alloc (.cells #[.func (.func g) #[] lb] 75)) (w.heap.size + 1) 0 [.func (.func g) #[] lb] := by have h := RowAt.box (w.alloc (.cells #[.int .i64 n] 3)) #[.func (.func g) #[] lb] 75; simp only [World.size_alloc] at h; exact h
  have B1 := B1.below (show Below ((w.alloc (.cells #[.int .i64 n] 3)).alloc (.cells #[.func (.func g) #[] lb] 75)).heap.size ((w.alloc (.cells #[.int .i64 n] 3)).alloc (.cells #[.func (.func g) #[] lb] 75)) (((w.alloc (.cells #[.int .i64 n] 3)).alloc (.cells #[.func (.func g) #[] lb] 75)).alloc (.cells #[.int .i64 0] 3)) by go_grown)
  have B2 := B2.below (show Below ((w.alloc (.cells #[.int .i64 n] 3)).alloc (.cells #[.func (.func g) #[] lb] 75)).heap.size ((w.alloc (.cells #[.int .i64 n] 3)).alloc (.cells #[.func (.func g) #[] lb] 75)) (((w.alloc (.cells #[.int .i64 n] 3)).alloc (.cells #[.func (.func g) #[] lb] 75)).alloc (.cells #[.int .i64 0] 3)) by go_grown)
  have B3 : RowAt (((w.alloc (.cells #[.int .i64 n] 3)).alloc (.cells #[.func (.func g) #[] lb] 75)).alloc (.cells #[.int .i64 0] 3)) (w.heap.size + 1 + 1) 0 [.int .i64 0] := by have h := RowAt.box ((w.alloc (.cells #[.int .i64 n] 3)).alloc (.cells #[.func (.func g) #[] lb] 75)) #[.int .i64 0] 3; simp only [World.size_alloc] at h; exact h
  have B1 := B1.below (show Below (((w.alloc (.cells #[.int .i64 n] 3)).alloc (.cells #[.func (.func g) #[] lb] 75)).alloc (.cells #[.int .i64 0] 3)).heap.size (((w.alloc (.cells #[.int .i64 n] 3)).alloc (.cells #[.func (.func g) #[] lb] 75)).alloc (.cells #[.int .i64 0] 3)) ((((w.alloc (.cells #[.int .i64 n] 3)).alloc (.cells #[.func (.func g) #[] lb] 75)).alloc (.cells #[.int .i64 0] 3)).alloc (.cells #[.func (.func 69) #[] #[.pointer (some ⟨w.heap.size + 1 + 1, 0, none⟩), .pointer (some ⟨w.heap.size, 0, none⟩), .pointer (some ⟨w.heap.size + 1, 0, none⟩), .pointer (some ⟨w.heap.size + 1 + 1 + 1, 0, none⟩)]] 99)) by go_grown)
  have B2 := B2.below (show Below (((w.alloc (.cells #[.int .i64 n] 3)).alloc (.cells #[.func (.func g) #[] lb] 75)).alloc (.cells #[.int .i64 0] 3)).heap.size (((w.alloc (.cells #[.int .i64 n] 3)).alloc (.cells #[.func (.func g) #[] lb] 75)).alloc (.cells #[.int .i64 0] 3)) ((((w.alloc (.cells #[.int .i64 n] 3)).alloc (.cells #[.func (.func g) #[] lb] 75)).alloc (.cells #[.int .i64 0] 3)).alloc (.cells #[.func (.func 69) #[] #[.pointer (some ⟨w.heap.size + 1 + 1, 0, none⟩), .pointer (some ⟨w.heap.size, 0, none⟩), .pointer (some ⟨w.heap.size + 1, 0, none⟩), .pointer (some ⟨w.heap.size + 1 + 1 + 1, 0, none⟩)]] 99)) by go_grown)
  have B3 := B3.below (show Below (((w.alloc (.cells #[.int .i64 n] 3)).alloc (.cells #[.func (.func g) #[] lb] 75)).alloc (.cells #[.int .i64 0] 3)).heap.size (((w.alloc (.cells #[.int .i64 n] 3)).alloc (.cells #[.func (.func g) #[] lb] 75)).alloc (.cells #[.int .i64 0] 3)) ((((w.alloc (.cells #[.int .i64 n] 3)).alloc (.cells #[.func (.func g) #[] lb] 75)).alloc (.cells #[.int .i64 0] 3)).alloc (.cells #[.func (.func 69) #[] #[.pointer (some ⟨w.heap.size + 1 + 1, 0, none⟩), .pointer (some ⟨w.heap.size, 0, none⟩), .pointer (some ⟨w.heap.size + 1, 0, none⟩), .pointer (some ⟨w.heap.size + 1 + 1 + 1, 0, none⟩)]] 99)) by go_grown)
  have B4 : RowAt ((((w.alloc (.cells #[.int .i64 n] 3)).alloc (.cells #[.func (.func g) #[] lb] 75)).alloc (.cells #[.int .i64 0] 3)).alloc (.cells #[.func (.func 69) #[] #[.pointer (some ⟨w.heap.size + 1 + 1, 0, none⟩), .pointer (some ⟨w.heap.size, 0, none⟩), .pointer (some ⟨w.heap.size + 1, 0, none⟩), .pointer (some ⟨w.heap.size + 1 + 1 + 1, 0, none⟩)]] 99)) (w.heap.size + 1 + 1 + 1) 0 [.func (.func 69) #[] #[.pointer (some ⟨w.heap.size + 1 + 1, 0, none⟩), .pointer (some ⟨w.heap.size, 0, none⟩), .pointer (some ⟨w.heap.size + 1, 0, none⟩), .pointer (some ⟨w.heap.size + 1 + 1 + 1, 0, none⟩)]] := by have h := RowAt.box (((w.alloc (.cells #[.int .i64 n] 3)).alloc (.cells #[.func (.func g) #[] lb] 75)).alloc (.cells #[.int .i64 0] 3)) #[.func (.func 69) #[] #[.pointer (some ⟨w.heap.size + 1 + 1, 0, none⟩), .pointer (some ⟨w.heap.size, 0, none⟩), .pointer (some ⟨w.heap.size + 1, 0, none⟩), .pointer (some ⟨w.heap.size + 1 + 1 + 1, 0, none⟩)]] 99; simp only [World.size_alloc] at h; exact h
  have hw : Below w.heap.size w ((((w.alloc (.cells #[.int .i64 n] 3)).alloc (.cells #[.func (.func g) #[] lb] 75)).alloc (.cells #[.int .i64 0] 3)).alloc (.cells #[.func (.func 69) #[] #[.pointer (some ⟨w.heap.size + 1 + 1, 0, none⟩), .pointer (some ⟨w.heap.size, 0, none⟩), .pointer (some ⟨w.heap.size + 1, 0, none⟩), .pointer (some ⟨w.heap.size + 1 + 1 + 1, 0, none⟩)]] 99)) := by go_grown
  generalize ((((w.alloc (.cells #[.int .i64 n] 3)).alloc (.cells #[.func (.func g) #[] lb] 75)).alloc (.cells #[.int .i64 0] 3)).alloc (.cells #[.func (.func 69) #[] #[.pointer (some ⟨w.heap.size + 1 + 1, 0, none⟩), .pointer (some ⟨w.heap.size, 0, none⟩), .pointer (some ⟨w.heap.size + 1, 0, none⟩), .pointer (some ⟨w.heap.size + 1 + 1 + 1, 0, none⟩)]] 99)) = w1 at *
  have e4 := B4.box1
  have hcall := hw0.out w1 ⟨by omega, by omega⟩ (by omega) ⟨hw, by omega, by omega, B3.box1, hfz, B1.box1, B2.box1, e4⟩
  clear hw0 B1 B2 B3 B4 hw hfz
  generalize hd : decide (0 ≤ endsK n K (n + 1) 0) = d
  replace hd := Lib.hid hd
  have hcall : Calls Try.prog 69 #[.int .i64 0, .pointer (some ⟨w.heap.size + 1 + 1, 0, none⟩), .pointer (some ⟨w.heap.size, 0, none⟩), .pointer (some ⟨w.heap.size + 1, 0, none⟩), .pointer (some ⟨w.heap.size + 1 + 1 + 1, 0, none⟩)] w1 fun e w' => ∃ z : Nat, e = .returned (.bool d) ∧ Four w n g lb (w.heap.size + 1 + 1) w.heap.size (w.heap.size + 1) (w.heap.size + 1 + 1 + 1) z w' ∧ Hid (0 ≤ endsK n K (n + 1) 0 → (z : Int) = endsK n K (n + 1) 0) :=
    hcall.mono fun e w' ⟨z, h1, h2, h3⟩ => ⟨z, by rw [← hd.out, h1]; simp, h2, fun h => h3 rfl h⟩
  cases d with
  | true =>
    have h0 := of_decide_eq_true hd.out
    by_cases hz : endsK n K (n + 1) 0 = n
    · replace hcall : Calls Try.prog 69 #[.int .i64 0, .pointer (some ⟨w.heap.size + 1 + 1, 0, none⟩), .pointer (some ⟨w.heap.size, 0, none⟩), .pointer (some ⟨w.heap.size + 1, 0, none⟩), .pointer (some ⟨w.heap.size + 1 + 1 + 1, 0, none⟩)] w1 fun e w' => e = .returned (.bool true) ∧ Four w n g lb (w.heap.size + 1 + 1) w.heap.size (w.heap.size + 1) (w.heap.size + 1 + 1 + 1) n w' :=
        hcall.mono fun e w' ⟨z, h1, h2, h3⟩ => ⟨h1, by have h4 := h3 h0; obtain rfl : z = n := by omega
                                                       exact h2⟩
      have d3 : ((n : Int) == n) = true := by simp
      replace hz := Lib.hid hz
      clear h0
      go_wp2_with (go_at_call 69; refine hcall.mono ?_; rintro e w2 ⟨rfl, F⟩; have e1 := F.c1; have e2 := F.c2)
      go_returns
      exact ⟨by rw [decide_eq_true hz.out]; rfl, F.below⟩
    · replace hcall : Calls Try.prog 69 #[.int .i64 0, .pointer (some ⟨w.heap.size + 1 + 1, 0, none⟩), .pointer (some ⟨w.heap.size, 0, none⟩), .pointer (some ⟨w.heap.size + 1, 0, none⟩), .pointer (some ⟨w.heap.size + 1 + 1 + 1, 0, none⟩)] w1 fun e w' => ∃ z : Nat, e = .returned (.bool true) ∧ Four w n g lb (w.heap.size + 1 + 1) w.heap.size (w.heap.size + 1) (w.heap.size + 1 + 1 + 1) z w' ∧ ((z : Int) == n) = false :=
        hcall.mono fun e w' ⟨z, h1, h2, h3⟩ => ⟨z, h1, h2, by have h4 := h3 h0; simp; omega⟩
      replace hz := Lib.hid hz
      clear h0
      go_wp2_with (go_at_call 69; refine hcall.mono ?_; rintro e w2 ⟨z, rfl, F, d3⟩; have e1 := F.c1; have e2 := F.c2)
      go_returns
      exact ⟨by rw [decide_eq_false hz.out]; rfl, F.below⟩
  | false =>
    have h0 := of_decide_eq_false hd.out
    have hz : ¬ endsK n K (n + 1) 0 = n := by omega
    replace hz := Lib.hid hz
    clear h0
    go_wp2_with (go_at_call 69; refine hcall.mono ?_; rintro e w2 ⟨z, rfl, F, -⟩)
    go_returns
    exact ⟨by rw [decide_eq_false hz.out]; rfl, F.below⟩

end Go.Proofs.Ytpblhonnknmjjaa
