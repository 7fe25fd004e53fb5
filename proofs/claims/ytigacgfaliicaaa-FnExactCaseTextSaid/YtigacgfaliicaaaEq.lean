/- The walks of the eq functions: two values are equal as data. Printed by gen_helpers.py. -/
import Derived.Test.YtigacgfaliicaaaRows
import Derived.Test.YtigacgfaliicaaaTypes
namespace Go.Proofs.Ytigacgfaliicaaa
open Go.RowKit
set_option linter.unusedVariables false
set_option linter.unusedSimpArgs false
attribute [local go_sem] Ext.cell


set_option maxHeartbeats 1000000 in
theorem eqIntS_c (x y : List Int) (u v : Value) (lo lo' : Nat) (w : World) (hx : Sl IntR 1 lo w u x) (hy : Sl IntR 1 lo' w v y) :
    Calls Try.prog 19 #[u, v] w fun e w' => e = .returned (.bool (decide (x = y))) ∧ Below w.heap.size w w' := by
  obtain ⟨a1, c1, rfl, l1, m1, h1⟩ := hx
  obtain ⟨a2, c2, rfl, l2, m2, h2⟩ := hy
  obtain ⟨n, hn⟩ : ∃ n, n = x.length := ⟨_, rfl⟩
  obtain ⟨m, hm⟩ : ∃ m, m = y.length := ⟨_, rfl⟩
  rw [← hn] at l1 ⊢
  rw [← hm] at l2 ⊢
  have X1 := Lib.hid hn; have X2 := Lib.hid hm
  clear hn hm
  by_cases hl : n = m
  · subst hl
    go_enter Try.func19, Try.ntmps19
    go_wp2_with fail
    go_loopw [5] (fun i wr => ∃ k : Nat, k ≤ n ∧ i = .int .i64 k ∧ Hid (x.take k = y.take k) ∧ Below w.heap.size w wr) (fun i _ => n - (intOf i).toNat)
    case atStart => exact ⟨0, by omega, rfl, rfl, Below.refl _ _⟩
    case round =>
      obtain ⟨k, hk, rfl, ht, hw⟩ := hrel
      by_cases hlt : k < n
      · obtain ⟨b1, o1, p, s1, _, rfl, P1, q1, r1⟩ := (h1.below IntR.good hw).get X1 hlt
        obtain ⟨b2, o2, q, s2, _, rfl, P2, q2, r2⟩ := (h2.below IntR.good hw).get X2 hlt
        obtain ⟨rfl, _⟩ := q1; obtain ⟨rfl, _⟩ := q2
        have R1 : ∀ z : Ext wr, z.val.cell? ⟨b1, o1 + k, none⟩ = some (.int .i64 p) := fun z => by simpa using (r1.ext z) 0 _ rfl
        have R2 : ∀ z : Ext wr, z.val.cell? ⟨b2, o2 + k, none⟩ = some (.int .i64 q) := fun z => by simpa using (r2.ext z) 0 _ rfl
        clear r1 r2
        go_wp2_with fail
        refine wp_region_ext_lit (by kernel_rfl) (by kernel_rfl) ?_
        repeat (go_big_quiet_step ((fail)))
        refine wpQuiet_nil ?_
        rintro _ ⟨⟨w2, hw2⟩, rfl⟩
        clear R1 R2
        have hw3 := hw.trans (hw2.mono hw.size)
        generalize hd : (p != q) = d
        have E := Lib.hid hd; clear hd
        cases d
        · have E := neq_of_int_false E.out
          have E := Lib.hid E
          go_wp2
          go_roundw
          case rel => exact ⟨k + 1, by omega, by go_num, by show _ = _; rw [take_snoc' P1.out, take_snoc' P2.out, ht.out, E.out], hw3⟩
          case measure => simp [intOf]; omega
        · have E := neq_of_int_true E.out
          have E := Lib.hid E
          go_wp2
          go_returns
          refine ⟨?_, hw3⟩
          have : x ≠ y := by
            rintro rfl
            exact E.out (Option.some.inj (P1.out.symm.trans P2.out))
          simp [this]
      · go_wp2
        go_returns
        refine ⟨?_, hw⟩
        obtain rfl : k = n := by omega
        have h1 : x = y := by
          have := ht.out
          rwa [take_full X1, take_full X2] at this
        simp [h1]
  · go_enter Try.func19, Try.ntmps19
    go_wp2
    go_returns
    refine ⟨?_, Below.refl _ _⟩
    have h1 : x ≠ y := by
      rintro rfl
      exact hl (X1.out.trans X2.out.symm)
    simp [h1]


set_option maxHeartbeats 1000000 in
theorem eqStringS_c (x y : List ByteArray) (u v : Value) (lo lo' : Nat) (w : World) (hx : Sl StrR 1 lo w u x) (hy : Sl StrR 1 lo' w v y) :
    Calls Try.prog 18 #[u, v] w fun e w' => e = .returned (.bool (decide (x = y))) ∧ Below w.heap.size w w' := by
  obtain ⟨a1, c1, rfl, l1, m1, h1⟩ := hx
  obtain ⟨a2, c2, rfl, l2, m2, h2⟩ := hy
  obtain ⟨n, hn⟩ : ∃ n, n = x.length := ⟨_, rfl⟩
  obtain ⟨m, hm⟩ : ∃ m, m = y.length := ⟨_, rfl⟩
  rw [← hn] at l1 ⊢
  rw [← hm] at l2 ⊢
  have X1 := Lib.hid hn; have X2 := Lib.hid hm
  clear hn hm
  by_cases hl : n = m
  · subst hl
    go_enter Try.func18, Try.ntmps18
    go_wp2_with fail
    go_loopw [5] (fun i wr => ∃ k : Nat, k ≤ n ∧ i = .int .i64 k ∧ Hid (x.take k = y.take k) ∧ Below w.heap.size w wr) (fun i _ => n - (intOf i).toNat)
    case atStart => exact ⟨0, by omega, rfl, rfl, Below.refl _ _⟩
    case round =>
      obtain ⟨k, hk, rfl, ht, hw⟩ := hrel
      by_cases hlt : k < n
      · obtain ⟨b1, o1, p, s1, _, rfl, P1, q1, r1⟩ := (h1.below StrR.good hw).get X1 hlt
        obtain ⟨b2, o2, q, s2, _, rfl, P2, q2, r2⟩ := (h2.below StrR.good hw).get X2 hlt
        obtain ⟨rfl, _⟩ := q1; obtain ⟨rfl, _⟩ := q2
        have R1 : ∀ z : Ext wr, z.val.cell? ⟨b1, o1 + k, none⟩ = some (.string p) := fun z => by simpa using (r1.ext z) 0 _ rfl
        have R2 : ∀ z : Ext wr, z.val.cell? ⟨b2, o2 + k, none⟩ = some (.string q) := fun z => by simpa using (r2.ext z) 0 _ rfl
        clear r1 r2
        go_wp2_with fail
        refine wp_region_ext_lit (by kernel_rfl) (by kernel_rfl) ?_
        repeat (go_big_quiet_step ((fail)))
        refine wpQuiet_nil ?_
        rintro _ ⟨⟨w2, hw2⟩, rfl⟩
        clear R1 R2
        have hw3 := hw.trans (hw2.mono hw.size)
        generalize hd : (!p.toList == q.toList) = d
        have E := Lib.hid hd; clear hd
        cases d
        · have E := neq_of_str_false E.out
          have E := Lib.hid E
          go_wp2
          go_roundw
          case rel => exact ⟨k + 1, by omega, by go_num, by show _ = _; rw [take_snoc' P1.out, take_snoc' P2.out, ht.out, E.out], hw3⟩
          case measure => simp [intOf]; omega
        · have E := neq_of_str_true E.out
          have E := Lib.hid E
          go_wp2
          go_returns
          refine ⟨?_, hw3⟩
          have : x ≠ y := by
            rintro rfl
            exact E.out (Option.some.inj (P1.out.symm.trans P2.out))
          simp [this]
      · go_wp2
        go_returns
        refine ⟨?_, hw⟩
        obtain rfl : k = n := by omega
        have h1 : x = y := by
          have := ht.out
          rwa [take_full X1, take_full X2] at this
        simp [h1]
  · go_enter Try.func18, Try.ntmps18
    go_wp2
    go_returns
    refine ⟨?_, Below.refl _ _⟩
    have h1 : x ≠ y := by
      rintro rfl
      exact hl (X1.out.trans X2.out.symm)
    simp [h1]


set_option maxHeartbeats 1000000 in
theorem eqCase_c (x y : GCase) (r s : List Value) (lo lo' : Nat) (w : World) (hx : GCase.R lo w r x) (hy : GCase.R lo' w s y) :
    Calls Try.prog 8 #[.agg r.toArray, .agg s.toArray] w fun e w' => e = .returned (.bool (decide (x = y))) ∧ Below w.heap.size w w' := by
  obtain ⟨x0, x1, x2, x3⟩ := x
  obtain ⟨y0, y1, y2, y3⟩ := y
  obtain ⟨u0, u1, u2, rfl, wx0, a0, a1, a2⟩ := hx
  obtain ⟨v0, v1, v2, rfl, wy0, b0, b1, b2⟩ := hy
  dsimp only at *
  go_enter Try.func8, Try.ntmps8
  go_wp2_with (first | (go_at_call 18; ((with_reducible refine (eqStringS_c x1 y1 u0 v0 lo lo' _ ?_ ?_).mono ?_); exact a0.below StrR.good (by go_grown); exact b0.below StrR.good (by go_grown); rintro e w1 ⟨rfl, hb⟩; have hw : Below w.heap.size w w1 := Below.trans (by go_grown) (hb.mono (by go_grown)); obtain ⟨hc, hf⟩ := bcell hb; have hz := hw.size; have hz1 := hb.size; have hs0 : w.heap.size < w1.heap.size := (by have h := hz1; (try simp only [World.size_alloc, World.size_setCell, World.size_drew] at h); omega); have hs1 : w.heap.size + 1 < w1.heap.size := (by have h := hz1; (try simp only [World.size_alloc, World.size_setCell, World.size_drew] at h); omega); clear hb)) | (go_at_call 19; ((with_reducible refine (eqIntS_c x2 y2 u1 v1 lo lo' _ ?_ ?_).mono ?_); exact a1.below IntR.good (by go_grown); exact b1.below IntR.good (by go_grown); rintro e w1 ⟨rfl, hb⟩; have hw : Below w.heap.size w w1 := Below.trans (by go_grown) (hb.mono (by go_grown)); obtain ⟨hc, hf⟩ := bcell hb; have hz := hw.size; have hz1 := hb.size; have hs0 : w.heap.size < w1.heap.size := (by have h := hz1; (try simp only [World.size_alloc, World.size_setCell, World.size_drew] at h); omega); have hs1 : w.heap.size + 1 < w1.heap.size := (by have h := hz1; (try simp only [World.size_alloc, World.size_setCell, World.size_drew] at h); omega); clear hb)) | (go_at_call 18; ((with_reducible refine (eqStringS_c x3 y3 u2 v2 lo lo' _ ?_ ?_).mono ?_); exact a2.below StrR.good (by go_grown); exact b2.below StrR.good (by go_grown); rintro e w1 ⟨rfl, hb⟩; have hw : Below w.heap.size w w1 := Below.trans (by go_grown) (hb.mono (by go_grown)); obtain ⟨hc, hf⟩ := bcell hb; have hz := hw.size; have hz1 := hb.size; have hs0 : w.heap.size < w1.heap.size := (by have h := hz1; (try simp only [World.size_alloc, World.size_setCell, World.size_drew] at h); omega); have hs1 : w.heap.size + 1 < w1.heap.size := (by have h := hz1; (try simp only [World.size_alloc, World.size_setCell, World.size_drew] at h); omega); clear hb)))
  all_goals (go_returns; refine ⟨?_, by go_grown⟩; (try clear hc hf); simp_all [toList_eq] <;> grind)


end Go.Proofs.Ytigacgfaliicaaa