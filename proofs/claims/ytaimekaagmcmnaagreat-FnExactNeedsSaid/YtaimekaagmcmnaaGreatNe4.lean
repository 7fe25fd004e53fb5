/- Parts of the proof, merged: Eq. -/
import Derived.Test.YtaimekaagmcmnaaGreatRows
import Derived.Test.YtaimekaagmcmnaaGreatNe3
/- The walks of the eq functions: two values are equal as data. Printed by gen_helpers.py. -/
namespace Go.Proofs.YtaimekaagmcmnaaGreat
open Go.RowKit
set_option linter.unusedVariables false
set_option linter.unusedSimpArgs false
attribute [local go_sem] Ext.cell


set_option maxHeartbeats 1000000 in
theorem eqIntS_c (x y : List Int) (u v : Value) (lo lo' : Nat) (w : World) (hx : Sl IntR 1 lo w u x) (hy : Sl IntR 1 lo' w v y) :
    Calls Tryz.prog 93 #[u, v] w fun e w' => e = .returned (.bool (decide (x = y))) ∧ Below w.heap.size w w' := by
  obtain ⟨a1, c1, rfl, l1, m1, h1⟩ := hx
  obtain ⟨a2, c2, rfl, l2, m2, h2⟩ := hy
  obtain ⟨n, hn⟩ : ∃ n, n = x.length := ⟨_, rfl⟩
  obtain ⟨m, hm⟩ : ∃ m, m = y.length := ⟨_, rfl⟩
  rw [← hn] at l1 ⊢
  rw [← hm] at l2 ⊢
  have X1 := Lib.hid hn; have X2 := Lib.hid hm
  clear hn hm
  by_cases hl : n = m
  · subst hl
    go_enter Tryz.func93, Tryz.ntmps93
    go_wp2_with fail
    go_loopw [5] (fun i wr => ∃ k : Nat, k ≤ n ∧ i = .int .i64 k ∧ Hid (x.take k = y.take k) ∧ Below w.heap.size w wr) (fun i _ => n - (intOf i).toNat)
    case atStart => exact ⟨0, by omega, rfl, rfl, Below.refl _ _⟩
    case round =>
      obtain ⟨k, hk, rfl, ht, hw⟩ := hrel
      by_cases hlt : k < n
      · obtain ⟨b1, o1, p, s1, _, rfl, P1, q1, r1⟩ := (h1.below IntR.good hw).get X1 hlt
        obtain ⟨b2, o2, q, s2, _, rfl, P2, q2, r2⟩ := (h2.below IntR.good hw).get X2 hlt
        obtain ⟨rfl, _⟩ := q1; obtain ⟨rfl, _⟩ := q2
        have R1 : ∀ z : Ext wr, z.val.cell? ⟨b1, o1 + k, none⟩ = some (.int .i64 p) := fun z => by simpa using (r1.ext z) 0 _ rfl
        have R2 : ∀ z : Ext wr, z.val.cell? ⟨b2, o2 + k, none⟩ = some (.int .i64 q) := fun z => by simpa using (r2.ext z) 0 _ rfl
        clear r1 r2
        go_wp2_with fail
        refine wp_region_ext_lit (by kernel_rfl) (by kernel_rfl) ?_
        repeat (go_big_quiet_step ((fail)))
        refine wpQuiet_nil ?_
        rintro _ ⟨⟨w2, hw2⟩, rfl⟩
        clear R1 R2
        have hw3 := hw.trans (hw2.mono hw.size)
        generalize hd : (p != q) = d
        have E := Lib.hid hd; clear hd
        cases d
        · have E := neq_of_int_false E.out
          have E := Lib.hid E
          go_wp2
          go_roundw
          case rel => exact ⟨k + 1, by omega, by go_num, by show _ = _; rw [take_snoc' P1.out, take_snoc' P2.out, ht.out, E.out], hw3⟩
          case measure => simp [intOf]; omega
        · have E := neq_of_int_true E.out
          have E := Lib.hid E
          go_wp2
          go_returns
          refine ⟨?_, hw3⟩
          have : x ≠ y := by
            rintro rfl
            exact E.out (Option.some.inj (P1.out.symm.trans P2.out))
          simp [this]
      · go_wp2
        go_returns
        refine ⟨?_, hw⟩
        obtain rfl : k = n := by omega
        have h1 : x = y := by
          have := ht.out
          rwa [take_full X1, take_full X2] at this
        simp [h1]
  · go_enter Tryz.func93, Tryz.ntmps93
    go_wp2
    go_returns
    refine ⟨?_, Below.refl _ _⟩
    have h1 : x ≠ y := by
      rintro rfl
      exact hl (X1.out.trans X2.out.symm)
    simp [h1]


set_option maxHeartbeats 1000000 in
theorem eqStringS_c (x y : List ByteArray) (u v : Value) (lo lo' : Nat) (w : World) (hx : Sl StrR 1 lo w u x) (hy : Sl StrR 1 lo' w v y) :
    Calls Tryz.prog 8 #[u, v] w fun e w' => e = .returned (.bool (decide (x = y))) ∧ Below w.heap.size w w' := by
  obtain ⟨a1, c1, rfl, l1, m1, h1⟩ := hx
  obtain ⟨a2, c2, rfl, l2, m2, h2⟩ := hy
  obtain ⟨n, hn⟩ : ∃ n, n = x.length := ⟨_, rfl⟩
  obtain ⟨m, hm⟩ : ∃ m, m = y.length := ⟨_, rfl⟩
  rw [← hn] at l1 ⊢
  rw [← hm] at l2 ⊢
  have X1 := Lib.hid hn; have X2 := Lib.hid hm
  clear hn hm
  by_cases hl : n = m
  · subst hl
    go_enter Tryz.func8, Tryz.ntmps8
    go_wp2_with fail
    go_loopw [5] (fun i wr => ∃ k : Nat, k ≤ n ∧ i = .int .i64 k ∧ Hid (x.take k = y.take k) ∧ Below w.heap.size w wr) (fun i _ => n - (intOf i).toNat)
    case atStart => exact ⟨0, by omega, rfl, rfl, Below.refl _ _⟩
    case round =>
      obtain ⟨k, hk, rfl, ht, hw⟩ := hrel
      by_cases hlt : k < n
      · obtain ⟨b1, o1, p, s1, _, rfl, P1, q1, r1⟩ := (h1.below StrR.good hw).get X1 hlt
        obtain ⟨b2, o2, q, s2, _, rfl, P2, q2, r2⟩ := (h2.below StrR.good hw).get X2 hlt
        obtain ⟨rfl, _⟩ := q1; obtain ⟨rfl, _⟩ := q2
        have R1 : ∀ z : Ext wr, z.val.cell? ⟨b1, o1 + k, none⟩ = some (.string p) := fun z => by simpa using (r1.ext z) 0 _ rfl
        have R2 : ∀ z : Ext wr, z.val.cell? ⟨b2, o2 + k, none⟩ = some (.string q) := fun z => by simpa using (r2.ext z) 0 _ rfl
        clear r1 r2
        go_wp2_with fail
        refine wp_region_ext_lit (by kernel_rfl) (by kernel_rfl) ?_
        repeat (go_big_quiet_step ((fail)))
        refine wpQuiet_nil ?_
        rintro _ ⟨⟨w2, hw2⟩, rfl⟩
        clear R1 R2
        have hw3 := hw.trans (hw2.mono hw.size)
        generalize hd : (!p.toList == q.toList) = d
        have E := Lib.hid hd; clear hd
        cases d
        · have E := neq_of_str_false E.out
          have E := Lib.hid E
          go_wp2
          go_roundw
          case rel => exact ⟨k + 1, by omega, by go_num, by show _ = _; rw [take_snoc' P1.out, take_snoc' P2.out, ht.out, E.out], hw3⟩
          case measure => simp [intOf]; omega
        · have E := neq_of_str_true E.out
          have E := Lib.hid E
          go_wp2
          go_returns
          refine ⟨?_, hw3⟩
          have : x ≠ y := by
            rintro rfl
            exact E.out (Option.some.inj (P1.out.symm.trans P2.out))
          simp [this]
      · go_wp2
        go_returns
        refine ⟨?_, hw⟩
        obtain rfl : k = n := by omega
        have h1 : x = y := by
          have := ht.out
          rwa [take_full X1, take_full X2] at this
        simp [h1]
  · go_enter Tryz.func8, Tryz.ntmps8
    go_wp2
    go_returns
    refine ⟨?_, Below.refl _ _⟩
    have h1 : x ≠ y := by
      rintro rfl
      exact hl (X1.out.trans X2.out.symm)
    simp [h1]


set_option maxHeartbeats 1000000 in
theorem eqPNode_c (x y : GPNode) (r s : List Value) (lo lo' : Nat) (w : World) (hx : GPNode.R lo w r x) (hy : GPNode.R lo' w s y) :
    Calls Tryz.prog 170 #[.agg r.toArray, .agg s.toArray] w fun e w' => e = .returned (.bool (decide (x = y))) ∧ Below w.heap.size w w' := by
  obtain ⟨x0, x1, x2, x3⟩ := x
  obtain ⟨y0, y1, y2, y3⟩ := y
  obtain ⟨u0, rfl, ⟨wx0, wx1, wx2⟩, a0⟩ := hx
  obtain ⟨v0, rfl, ⟨wy0, wy1, wy2⟩, b0⟩ := hy
  dsimp only at *
  go_enter Tryz.func170, Tryz.ntmps170
  go_wp2_with (first | (go_at_call 93; ((with_reducible refine (eqIntS_c x3 y3 u0 v0 lo lo' _ ?_ ?_).mono ?_); exact a0.below IntR.good (by go_grown); exact b0.below IntR.good (by go_grown); rintro e w1 ⟨rfl, hb⟩; have hw : Below w.heap.size w w1 := Below.trans (by go_grown) (hb.mono (by go_grown)); obtain ⟨hc, hf⟩ := bcell hb; have hz := hw.size; have hz1 := hb.size; have hs0 : w.heap.size < w1.heap.size := (by have h := hz1; (try simp only [World.size_alloc, World.size_setCell, World.size_drew] at h); omega); have hs1 : w.heap.size + 1 < w1.heap.size := (by have h := hz1; (try simp only [World.size_alloc, World.size_setCell, World.size_drew] at h); omega); clear hb)))
  all_goals (go_returns; refine ⟨?_, by go_grown⟩; (try clear hc hf); simp_all [toList_eq] <;> grind)


set_option maxHeartbeats 1000000 in
theorem eqPNodeS_c (x y : List GPNode) (u v : Value) (lo lo' : Nat) (w : World) (hx : Sl GPNode.R 4 lo w u x) (hy : Sl GPNode.R 4 lo' w v y) :
    Calls Tryz.prog 149 #[u, v] w fun e w' => e = .returned (.bool (decide (x = y))) ∧ Below w.heap.size w w' := by
  obtain ⟨a1, c1, rfl, l1, m1, h1⟩ := hx
  obtain ⟨a2, c2, rfl, l2, m2, h2⟩ := hy
  obtain ⟨n, hn⟩ : ∃ n, n = x.length := ⟨_, rfl⟩
  obtain ⟨m, hm⟩ : ∃ m, m = y.length := ⟨_, rfl⟩
  rw [← hn] at l1 ⊢
  rw [← hm] at l2 ⊢
  have X1 := Lib.hid hn; have X2 := Lib.hid hm
  clear hn hm
  by_cases hl : n = m
  · subst hl
    go_enter Tryz.func149, Tryz.ntmps149
    go_wp2_with fail
    go_loopw [5] (fun i wr => ∃ k : Nat, k ≤ n ∧ i = .int .i64 k ∧ Hid (x.take k = y.take k) ∧ Below w.heap.size w wr) (fun i _ => n - (intOf i).toNat)
    case atStart => exact ⟨0, by omega, rfl, rfl, Below.refl _ _⟩
    case round =>
      obtain ⟨k, hk, rfl, ht, hw⟩ := hrel
      by_cases hlt : k < n
      · obtain ⟨b1, o1, p, s1, _, rfl, P1, q1, r1⟩ := (h1.below GPNode.good hw).get X1 hlt
        obtain ⟨b2, o2, q, s2, _, rfl, P2, q2, r2⟩ := (h2.below GPNode.good hw).get X2 hlt
        have Q1 := q1; have Q2 := q2
        obtain ⟨s0, rfl, _⟩ := q1; obtain ⟨t0, rfl, _⟩ := q2
        have R1 : ∀ z : Ext wr, z.val.cell? ⟨b1, o1 + k * 4, none⟩ = some (.int .i64 p.kind) ∧ z.val.cell? ⟨b1, o1 + k * 4 + 1, none⟩ = some (.int .i64 p.n) ∧ z.val.cell? ⟨b1, o1 + k * 4 + 2, none⟩ = some (.string p.s) ∧ z.val.cell? ⟨b1, o1 + k * 4 + 3, none⟩ = some (s0) := fun z => ⟨by simpa using (r1.ext z) 0 _ rfl, by simpa using (r1.ext z) 1 _ rfl, by simpa using (r1.ext z) 2 _ rfl, by simpa using (r1.ext z) 3 _ rfl⟩
        have R2 : ∀ z : Ext wr, z.val.cell? ⟨b2, o2 + k * 4, none⟩ = some (.int .i64 q.kind) ∧ z.val.cell? ⟨b2, o2 + k * 4 + 1, none⟩ = some (.int .i64 q.n) ∧ z.val.cell? ⟨b2, o2 + k * 4 + 2, none⟩ = some (.string q.s) ∧ z.val.cell? ⟨b2, o2 + k * 4 + 3, none⟩ = some (t0) := fun z => ⟨by simpa using (r2.ext z) 0 _ rfl, by simpa using (r2.ext z) 1 _ rfl, by simpa using (r2.ext z) 2 _ rfl, by simpa using (r2.ext z) 3 _ rfl⟩
        clear r1 r2
        go_wp2_with fail
        refine wp_region_ext_lit (by kernel_rfl) (by kernel_rfl) ?_
        repeat (go_big_quiet_step (((go_at_call 170; exact Calls.ext (eqPNode_c p q _ _ _ _ _ (GPNode.good.below Q1 (Subtype.property _)) (GPNode.good.below Q2 (Subtype.property _)))))))
        refine wpQuiet_nil ?_
        rintro _ ⟨⟨w2, hw2⟩, rfl⟩
        clear R1 R2
        have hw3 := hw.trans (hw2.mono hw.size)
        generalize hd : (decide (p = q)) = d
        have E := Lib.hid hd; clear hd
        cases d
        · have E := neq_of_dec_false E.out
          have E := Lib.hid E
          go_wp2
          go_returns
          refine ⟨?_, hw3⟩
          have : x ≠ y := by
            rintro rfl
            exact E.out (Option.some.inj (P1.out.symm.trans P2.out))
          simp [this]
        · have E := neq_of_dec_true E.out
          have E := Lib.hid E
          go_wp2
          go_roundw
          case rel => exact ⟨k + 1, by omega, by go_num, by show _ = _; rw [take_snoc' P1.out, take_snoc' P2.out, ht.out, E.out], hw3⟩
          case measure => simp [intOf]; omega
      · go_wp2
        go_returns
        refine ⟨?_, hw⟩
        obtain rfl : k = n := by omega
        have h1 : x = y := by
          have := ht.out
          rwa [take_full X1, take_full X2] at this
        simp [h1]
  · go_enter Tryz.func149, Tryz.ntmps149
    go_wp2
    go_returns
    refine ⟨?_, Below.refl _ _⟩
    have h1 : x ≠ y := by
      rintro rfl
      exact hl (X1.out.trans X2.out.symm)
    simp [h1]


set_option maxHeartbeats 1000000 in
theorem eqPat_c (x y : GPat) (r s : List Value) (lo lo' : Nat) (w : World) (hx : GPat.R lo w r x) (hy : GPat.R lo' w s y) :
    Calls Tryz.prog 123 #[.agg r.toArray, .agg s.toArray] w fun e w' => e = .returned (.bool (decide (x = y))) ∧ Below w.heap.size w w' := by
  obtain ⟨x0⟩ := x
  obtain ⟨y0⟩ := y
  obtain ⟨u0, rfl, _, a0⟩ := hx
  obtain ⟨v0, rfl, _, b0⟩ := hy
  dsimp only at *
  go_enter Tryz.func123, Tryz.ntmps123
  go_wp2_with (first | (go_at_call 149; ((with_reducible refine (eqPNodeS_c x0 y0 u0 v0 lo lo' _ ?_ ?_).mono ?_); exact a0.below GPNode.good (by go_grown); exact b0.below GPNode.good (by go_grown); rintro e w1 ⟨rfl, hb⟩; have hw : Below w.heap.size w w1 := Below.trans (by go_grown) (hb.mono (by go_grown)); obtain ⟨hc, hf⟩ := bcell hb; have hz := hw.size; have hz1 := hb.size; have hs0 : w.heap.size < w1.heap.size := (by have h := hz1; (try simp only [World.size_alloc, World.size_setCell, World.size_drew] at h); omega); have hs1 : w.heap.size + 1 < w1.heap.size := (by have h := hz1; (try simp only [World.size_alloc, World.size_setCell, World.size_drew] at h); omega); clear hb)))
  all_goals (go_returns; refine ⟨?_, by go_grown⟩; (try clear hc hf); simp_all [toList_eq] <;> grind)


set_option maxHeartbeats 1000000 in
theorem eqPatS_c (x y : List GPat) (u v : Value) (lo lo' : Nat) (w : World) (hx : Sl GPat.R 1 lo w u x) (hy : Sl GPat.R 1 lo' w v y) :
    Calls Tryz.prog 94 #[u, v] w fun e w' => e = .returned (.bool (decide (x = y))) ∧ Below w.heap.size w w' := by
  obtain ⟨a1, c1, rfl, l1, m1, h1⟩ := hx
  obtain ⟨a2, c2, rfl, l2, m2, h2⟩ := hy
  obtain ⟨n, hn⟩ : ∃ n, n = x.length := ⟨_, rfl⟩
  obtain ⟨m, hm⟩ : ∃ m, m = y.length := ⟨_, rfl⟩
  rw [← hn] at l1 ⊢
  rw [← hm] at l2 ⊢
  have X1 := Lib.hid hn; have X2 := Lib.hid hm
  clear hn hm
  by_cases hl : n = m
  · subst hl
    go_enter Tryz.func94, Tryz.ntmps94
    go_wp2_with fail
    go_loopw [5] (fun i wr => ∃ k : Nat, k ≤ n ∧ i = .int .i64 k ∧ Hid (x.take k = y.take k) ∧ Below w.heap.size w wr) (fun i _ => n - (intOf i).toNat)
    case atStart => exact ⟨0, by omega, rfl, rfl, Below.refl _ _⟩
    case round =>
      obtain ⟨k, hk, rfl, ht, hw⟩ := hrel
      by_cases hlt : k < n
      · obtain ⟨b1, o1, p, s1, _, rfl, P1, q1, r1⟩ := (h1.below GPat.good hw).get X1 hlt
        obtain ⟨b2, o2, q, s2, _, rfl, P2, q2, r2⟩ := (h2.below GPat.good hw).get X2 hlt
        have Q1 := q1; have Q2 := q2
        obtain ⟨s0, rfl, _⟩ := q1; obtain ⟨t0, rfl, _⟩ := q2
        have R1 : ∀ z : Ext wr, z.val.cell? ⟨b1, o1 + k, none⟩ = some (s0) := fun z => (by simpa using (r1.ext z) 0 _ rfl)
        have R2 : ∀ z : Ext wr, z.val.cell? ⟨b2, o2 + k, none⟩ = some (t0) := fun z => (by simpa using (r2.ext z) 0 _ rfl)
        clear r1 r2
        go_wp2_with fail
        refine wp_region_ext_lit (by kernel_rfl) (by kernel_rfl) ?_
        repeat (go_big_quiet_step (((go_at_call 123; exact Calls.ext (eqPat_c p q _ _ _ _ _ (GPat.good.below Q1 (Subtype.property _)) (GPat.good.below Q2 (Subtype.property _)))))))
        refine wpQuiet_nil ?_
        rintro _ ⟨⟨w2, hw2⟩, rfl⟩
        clear R1 R2
        have hw3 := hw.trans (hw2.mono hw.size)
        generalize hd : (decide (p = q)) = d
        have E := Lib.hid hd; clear hd
        cases d
        · have E := neq_of_dec_false E.out
          have E := Lib.hid E
          go_wp2
          go_returns
          refine ⟨?_, hw3⟩
          have : x ≠ y := by
            rintro rfl
            exact E.out (Option.some.inj (P1.out.symm.trans P2.out))
          simp [this]
        · have E := neq_of_dec_true E.out
          have E := Lib.hid E
          go_wp2
          go_roundw
          case rel => exact ⟨k + 1, by omega, by go_num, by show _ = _; rw [take_snoc' P1.out, take_snoc' P2.out, ht.out, E.out], hw3⟩
          case measure => simp [intOf]; omega
      · go_wp2
        go_returns
        refine ⟨?_, hw⟩
        obtain rfl : k = n := by omega
        have h1 : x = y := by
          have := ht.out
          rwa [take_full X1, take_full X2] at this
        simp [h1]
  · go_enter Tryz.func94, Tryz.ntmps94
    go_wp2
    go_returns
    refine ⟨?_, Below.refl _ _⟩
    have h1 : x ≠ y := by
      rintro rfl
      exact hl (X1.out.trans X2.out.symm)
    simp [h1]


set_option maxHeartbeats 1000000 in
theorem eqTyItem_c (x y : GTyItem) (r s : List Value) (lo lo' : Nat) (w : World) (hx : GTyItem.R lo w r x) (hy : GTyItem.R lo' w s y) :
    Calls Tryz.prog 181 #[.agg r.toArray, .agg s.toArray] w fun e w' => e = .returned (.bool (decide (x = y))) ∧ Below w.heap.size w w' := by
  obtain ⟨x0, x1, x2⟩ := x
  obtain ⟨y0, y1, y2⟩ := y
  obtain ⟨rfl, ⟨wx0, wx1, wx2⟩⟩ := hx
  obtain ⟨rfl, ⟨wy0, wy1, wy2⟩⟩ := hy
  dsimp only at *
  go_enter Tryz.func181, Tryz.ntmps181
  go_wp2
  all_goals (go_returns; refine ⟨?_, by go_grown⟩; (try clear hc hf); simp_all [toList_eq] <;> grind)


set_option maxHeartbeats 1000000 in
theorem eqTyItemS_c (x y : List GTyItem) (u v : Value) (lo lo' : Nat) (w : World) (hx : Sl GTyItem.R 3 lo w u x) (hy : Sl GTyItem.R 3 lo' w v y) :
    Calls Tryz.prog 169 #[u, v] w fun e w' => e = .returned (.bool (decide (x = y))) ∧ Below w.heap.size w w' := by
  obtain ⟨a1, c1, rfl, l1, m1, h1⟩ := hx
  obtain ⟨a2, c2, rfl, l2, m2, h2⟩ := hy
  obtain ⟨n, hn⟩ : ∃ n, n = x.length := ⟨_, rfl⟩
  obtain ⟨m, hm⟩ : ∃ m, m = y.length := ⟨_, rfl⟩
  rw [← hn] at l1 ⊢
  rw [← hm] at l2 ⊢
  have X1 := Lib.hid hn; have X2 := Lib.hid hm
  clear hn hm
  by_cases hl : n = m
  · subst hl
    go_enter Tryz.func169, Tryz.ntmps169
    go_wp2_with fail
    go_loopw [5] (fun i wr => ∃ k : Nat, k ≤ n ∧ i = .int .i64 k ∧ Hid (x.take k = y.take k) ∧ Below w.heap.size w wr) (fun i _ => n - (intOf i).toNat)
    case atStart => exact ⟨0, by omega, rfl, rfl, Below.refl _ _⟩
    case round =>
      obtain ⟨k, hk, rfl, ht, hw⟩ := hrel
      by_cases hlt : k < n
      · obtain ⟨b1, o1, p, s1, _, rfl, P1, q1, r1⟩ := (h1.below GTyItem.good hw).get X1 hlt
        obtain ⟨b2, o2, q, s2, _, rfl, P2, q2, r2⟩ := (h2.below GTyItem.good hw).get X2 hlt
        have Q1 := q1; have Q2 := q2
        obtain ⟨rfl, _⟩ := q1; obtain ⟨rfl, _⟩ := q2
        have R1 : ∀ z : Ext wr, z.val.cell? ⟨b1, o1 + k * 3, none⟩ = some (.int .i64 p.var) ∧ z.val.cell? ⟨b1, o1 + k * 3 + 1, none⟩ = some (.string p.name) ∧ z.val.cell? ⟨b1, o1 + k * 3 + 2, none⟩ = some (.int .i64 p.arity) := fun z => ⟨by simpa using (r1.ext z) 0 _ rfl, by simpa using (r1.ext z) 1 _ rfl, by simpa using (r1.ext z) 2 _ rfl⟩
        have R2 : ∀ z : Ext wr, z.val.cell? ⟨b2, o2 + k * 3, none⟩ = some (.int .i64 q.var) ∧ z.val.cell? ⟨b2, o2 + k * 3 + 1, none⟩ = some (.string q.name) ∧ z.val.cell? ⟨b2, o2 + k * 3 + 2, none⟩ = some (.int .i64 q.arity) := fun z => ⟨by simpa using (r2.ext z) 0 _ rfl, by simpa using (r2.ext z) 1 _ rfl, by simpa using (r2.ext z) 2 _ rfl⟩
        clear r1 r2
        go_wp2_with fail
        refine wp_region_ext_lit (by kernel_rfl) (by kernel_rfl) ?_
        repeat (go_big_quiet_step (((go_at_call 181; exact Calls.ext (eqTyItem_c p q _ _ _ _ _ (GTyItem.good.below Q1 (Subtype.property _)) (GTyItem.good.below Q2 (Subtype.property _)))))))
        refine wpQuiet_nil ?_
        rintro _ ⟨⟨w2, hw2⟩, rfl⟩
        clear R1 R2
        have hw3 := hw.trans (hw2.mono hw.size)
        generalize hd : (decide (p = q)) = d
        have E := Lib.hid hd; clear hd
        cases d
        · have E := neq_of_dec_false E.out
          have E := Lib.hid E
          go_wp2
          go_returns
          refine ⟨?_, hw3⟩
          have : x ≠ y := by
            rintro rfl
            exact E.out (Option.some.inj (P1.out.symm.trans P2.out))
          simp [this]
        · have E := neq_of_dec_true E.out
          have E := Lib.hid E
          go_wp2
          go_roundw
          case rel => exact ⟨k + 1, by omega, by go_num, by show _ = _; rw [take_snoc' P1.out, take_snoc' P2.out, ht.out, E.out], hw3⟩
          case measure => simp [intOf]; omega
      · go_wp2
        go_returns
        refine ⟨?_, hw⟩
        obtain rfl : k = n := by omega
        have h1 : x = y := by
          have := ht.out
          rwa [take_full X1, take_full X2] at this
        simp [h1]
  · go_enter Tryz.func169, Tryz.ntmps169
    go_wp2
    go_returns
    refine ⟨?_, Below.refl _ _⟩
    have h1 : x ≠ y := by
      rintro rfl
      exact hl (X1.out.trans X2.out.symm)
    simp [h1]


set_option maxHeartbeats 1000000 in
theorem eqTy_c (x y : GTy) (r s : List Value) (lo lo' : Nat) (w : World) (hx : GTy.R lo w r x) (hy : GTy.R lo' w s y) :
    Calls Tryz.prog 148 #[.agg r.toArray, .agg s.toArray] w fun e w' => e = .returned (.bool (decide (x = y))) ∧ Below w.heap.size w w' := by
  obtain ⟨x0⟩ := x
  obtain ⟨y0⟩ := y
  obtain ⟨u0, rfl, _, a0⟩ := hx
  obtain ⟨v0, rfl, _, b0⟩ := hy
  dsimp only at *
  go_enter Tryz.func148, Tryz.ntmps148
  go_wp2_with (first | (go_at_call 169; ((with_reducible refine (eqTyItemS_c x0 y0 u0 v0 lo lo' _ ?_ ?_).mono ?_); exact a0.below GTyItem.good (by go_grown); exact b0.below GTyItem.good (by go_grown); rintro e w1 ⟨rfl, hb⟩; have hw : Below w.heap.size w w1 := Below.trans (by go_grown) (hb.mono (by go_grown)); obtain ⟨hc, hf⟩ := bcell hb; have hz := hw.size; have hz1 := hb.size; have hs0 : w.heap.size < w1.heap.size := (by have h := hz1; (try simp only [World.size_alloc, World.size_setCell, World.size_drew] at h); omega); have hs1 : w.heap.size + 1 < w1.heap.size := (by have h := hz1; (try simp only [World.size_alloc, World.size_setCell, World.size_drew] at h); omega); clear hb)))
  all_goals (go_returns; refine ⟨?_, by go_grown⟩; (try clear hc hf); simp_all [toList_eq] <;> grind)


set_option maxHeartbeats 1000000 in
theorem eqCon_c (x y : GCon) (r s : List Value) (lo lo' : Nat) (w : World) (hx : GCon.R lo w r x) (hy : GCon.R lo' w s y) :
    Calls Tryz.prog 122 #[.agg r.toArray, .agg s.toArray] w fun e w' => e = .returned (.bool (decide (x = y))) ∧ Below w.heap.size w w' := by
  obtain ⟨x0, x1, ⟨x2⟩⟩ := x
  obtain ⟨y0, y1, ⟨y2⟩⟩ := y
  obtain ⟨u0, rfl, wx0, a0⟩ := hx
  obtain ⟨v0, rfl, wy0, b0⟩ := hy
  dsimp only at *
  go_enter Tryz.func122, Tryz.ntmps122
  go_wp2_with (first | (go_at_call 148; ((with_reducible refine (eqTy_c (⟨x2⟩ : GTy) (⟨y2⟩ : GTy) _ _ lo lo' _ ?_ ?_).mono ?_); exact ⟨u0, rfl, trivial, (a0.below GTyItem.good (by go_grown))⟩; exact ⟨v0, rfl, trivial, (b0.below GTyItem.good (by go_grown))⟩; rintro e w1 ⟨rfl, hb⟩; have hw : Below w.heap.size w w1 := Below.trans (by go_grown) (hb.mono (by go_grown)); obtain ⟨hc, hf⟩ := bcell hb; have hz := hw.size; have hz1 := hb.size; have hs0 : w.heap.size < w1.heap.size := (by have h := hz1; (try simp only [World.size_alloc, World.size_setCell, World.size_drew] at h); omega); have hs1 : w.heap.size + 1 < w1.heap.size := (by have h := hz1; (try simp only [World.size_alloc, World.size_setCell, World.size_drew] at h); omega); clear hb)))
  all_goals (go_returns; refine ⟨?_, by go_grown⟩; (try clear hc hf); simp_all [toList_eq] <;> grind)


set_option maxHeartbeats 1000000 in
theorem eqConS_c (x y : List GCon) (u v : Value) (lo lo' : Nat) (w : World) (hx : Sl GCon.R 3 lo w u x) (hy : Sl GCon.R 3 lo' w v y) :
    Calls Tryz.prog 92 #[u, v] w fun e w' => e = .returned (.bool (decide (x = y))) ∧ Below w.heap.size w w' := by
  obtain ⟨a1, c1, rfl, l1, m1, h1⟩ := hx
  obtain ⟨a2, c2, rfl, l2, m2, h2⟩ := hy
  obtain ⟨n, hn⟩ : ∃ n, n = x.length := ⟨_, rfl⟩
  obtain ⟨m, hm⟩ : ∃ m, m = y.length := ⟨_, rfl⟩
  rw [← hn] at l1 ⊢
  rw [← hm] at l2 ⊢
  have X1 := Lib.hid hn; have X2 := Lib.hid hm
  clear hn hm
  by_cases hl : n = m
  · subst hl
    go_enter Tryz.func92, Tryz.ntmps92
    go_wp2_with fail
    go_loopw [5] (fun i wr => ∃ k : Nat, k ≤ n ∧ i = .int .i64 k ∧ Hid (x.take k = y.take k) ∧ Below w.heap.size w wr) (fun i _ => n - (intOf i).toNat)
    case atStart => exact ⟨0, by omega, rfl, rfl, Below.refl _ _⟩
    case round =>
      obtain ⟨k, hk, rfl, ht, hw⟩ := hrel
      by_cases hlt : k < n
      · obtain ⟨b1, o1, p, s1, _, rfl, P1, q1, r1⟩ := (h1.below GCon.good hw).get X1 hlt
        obtain ⟨b2, o2, q, s2, _, rfl, P2, q2, r2⟩ := (h2.below GCon.good hw).get X2 hlt
        have Q1 := q1; have Q2 := q2
        obtain ⟨s0, rfl, _⟩ := q1; obtain ⟨t0, rfl, _⟩ := q2
        have R1 : ∀ z : Ext wr, z.val.cell? ⟨b1, o1 + k * 3, none⟩ = some (.string p.name) ∧ z.val.cell? ⟨b1, o1 + k * 3 + 1, none⟩ = some (.bool p.has) ∧ z.val.cell? ⟨b1, o1 + k * 3 + 2, none⟩ = some (s0) := fun z => ⟨by simpa using (r1.ext z) 0 _ rfl, by simpa using (r1.ext z) 1 _ rfl, by simpa using (r1.ext z) 2 _ rfl⟩
        have R2 : ∀ z : Ext wr, z.val.cell? ⟨b2, o2 + k * 3, none⟩ = some (.string q.name) ∧ z.val.cell? ⟨b2, o2 + k * 3 + 1, none⟩ = some (.bool q.has) ∧ z.val.cell? ⟨b2, o2 + k * 3 + 2, none⟩ = some (t0) := fun z => ⟨by simpa using (r2.ext z) 0 _ rfl, by simpa using (r2.ext z) 1 _ rfl, by simpa using (r2.ext z) 2 _ rfl⟩
        clear r1 r2
        go_wp2_with fail
        refine wp_region_ext_lit (by kernel_rfl) (by kernel_rfl) ?_
        repeat (go_big_quiet_step (((go_at_call 122; exact Calls.ext (eqCon_c p q _ _ _ _ _ (GCon.good.below Q1 (Subtype.property _)) (GCon.good.below Q2 (Subtype.property _)))))))
        refine wpQuiet_nil ?_
        rintro _ ⟨⟨w2, hw2⟩, rfl⟩
        clear R1 R2
        have hw3 := hw.trans (hw2.mono hw.size)
        generalize hd : (decide (p = q)) = d
        have E := Lib.hid hd; clear hd
        cases d
        · have E := neq_of_dec_false E.out
          have E := Lib.hid E
          go_wp2
          go_returns
          refine ⟨?_, hw3⟩
          have : x ≠ y := by
            rintro rfl
            exact E.out (Option.some.inj (P1.out.symm.trans P2.out))
          simp [this]
        · have E := neq_of_dec_true E.out
          have E := Lib.hid E
          go_wp2
          go_roundw
          case rel => exact ⟨k + 1, by omega, by go_num, by show _ = _; rw [take_snoc' P1.out, take_snoc' P2.out, ht.out, E.out], hw3⟩
          case measure => simp [intOf]; omega
      · go_wp2
        go_returns
        refine ⟨?_, hw⟩
        obtain rfl : k = n := by omega
        have h1 : x = y := by
          have := ht.out
          rwa [take_full X1, take_full X2] at this
        simp [h1]
  · go_enter Tryz.func92, Tryz.ntmps92
    go_wp2
    go_returns
    refine ⟨?_, Below.refl _ _⟩
    have h1 : x ≠ y := by
      rintro rfl
      exact hl (X1.out.trans X2.out.symm)
    simp [h1]


set_option maxHeartbeats 1000000 in
theorem eqType_c (x y : GType) (r s : List Value) (lo lo' : Nat) (w : World) (hx : GType.R lo w r x) (hy : GType.R lo' w s y) :
    Calls Tryz.prog 56 #[.agg r.toArray, .agg s.toArray] w fun e w' => e = .returned (.bool (decide (x = y))) ∧ Below w.heap.size w w' := by
  obtain ⟨x0, x1, x2⟩ := x
  obtain ⟨y0, y1, y2⟩ := y
  obtain ⟨u0, rfl, ⟨wx0, wx1⟩, a0⟩ := hx
  obtain ⟨v0, rfl, ⟨wy0, wy1⟩, b0⟩ := hy
  dsimp only at *
  go_enter Tryz.func56, Tryz.ntmps56
  go_wp2_with (first | (go_at_call 92; ((with_reducible refine (eqConS_c x2 y2 u0 v0 lo lo' _ ?_ ?_).mono ?_); exact a0.below GCon.good (by go_grown); exact b0.below GCon.good (by go_grown); rintro e w1 ⟨rfl, hb⟩; have hw : Below w.heap.size w w1 := Below.trans (by go_grown) (hb.mono (by go_grown)); obtain ⟨hc, hf⟩ := bcell hb; have hz := hw.size; have hz1 := hb.size; have hs0 : w.heap.size < w1.heap.size := (by have h := hz1; (try simp only [World.size_alloc, World.size_setCell, World.size_drew] at h); omega); have hs1 : w.heap.size + 1 < w1.heap.size := (by have h := hz1; (try simp only [World.size_alloc, World.size_setCell, World.size_drew] at h); omega); clear hb)))
  all_goals (go_returns; refine ⟨?_, by go_grown⟩; (try clear hc hf); simp_all [toList_eq] <;> grind)


set_option maxHeartbeats 1000000 in
theorem eqTypeS_c (x y : List GType) (u v : Value) (lo lo' : Nat) (w : World) (hx : Sl GType.R 3 lo w u x) (hy : Sl GType.R 3 lo' w v y) :
    Calls Tryz.prog 27 #[u, v] w fun e w' => e = .returned (.bool (decide (x = y))) ∧ Below w.heap.size w w' := by
  obtain ⟨a1, c1, rfl, l1, m1, h1⟩ := hx
  obtain ⟨a2, c2, rfl, l2, m2, h2⟩ := hy
  obtain ⟨n, hn⟩ : ∃ n, n = x.length := ⟨_, rfl⟩
  obtain ⟨m, hm⟩ : ∃ m, m = y.length := ⟨_, rfl⟩
  rw [← hn] at l1 ⊢
  rw [← hm] at l2 ⊢
  have X1 := Lib.hid hn; have X2 := Lib.hid hm
  clear hn hm
  by_cases hl : n = m
  · subst hl
    go_enter Tryz.func27, Tryz.ntmps27
    go_wp2_with fail
    go_loopw [5] (fun i wr => ∃ k : Nat, k ≤ n ∧ i = .int .i64 k ∧ Hid (x.take k = y.take k) ∧ Below w.heap.size w wr) (fun i _ => n - (intOf i).toNat)
    case atStart => exact ⟨0, by omega, rfl, rfl, Below.refl _ _⟩
    case round =>
      obtain ⟨k, hk, rfl, ht, hw⟩ := hrel
      by_cases hlt : k < n
      · obtain ⟨b1, o1, p, s1, _, rfl, P1, q1, r1⟩ := (h1.below GType.good hw).get X1 hlt
        obtain ⟨b2, o2, q, s2, _, rfl, P2, q2, r2⟩ := (h2.below GType.good hw).get X2 hlt
        have Q1 := q1; have Q2 := q2
        obtain ⟨s0, rfl, _⟩ := q1; obtain ⟨t0, rfl, _⟩ := q2
        have R1 : ∀ z : Ext wr, z.val.cell? ⟨b1, o1 + k * 3, none⟩ = some (.string p.name) ∧ z.val.cell? ⟨b1, o1 + k * 3 + 1, none⟩ = some (.int .i64 p.params) ∧ z.val.cell? ⟨b1, o1 + k * 3 + 2, none⟩ = some (s0) := fun z => ⟨by simpa using (r1.ext z) 0 _ rfl, by simpa using (r1.ext z) 1 _ rfl, by simpa using (r1.ext z) 2 _ rfl⟩
        have R2 : ∀ z : Ext wr, z.val.cell? ⟨b2, o2 + k * 3, none⟩ = some (.string q.name) ∧ z.val.cell? ⟨b2, o2 + k * 3 + 1, none⟩ = some (.int .i64 q.params) ∧ z.val.cell? ⟨b2, o2 + k * 3 + 2, none⟩ = some (t0) := fun z => ⟨by simpa using (r2.ext z) 0 _ rfl, by simpa using (r2.ext z) 1 _ rfl, by simpa using (r2.ext z) 2 _ rfl⟩
        clear r1 r2
        go_wp2_with fail
        refine wp_region_ext_lit (by kernel_rfl) (by kernel_rfl) ?_
        repeat (go_big_quiet_step (((go_at_call 56; exact Calls.ext (eqType_c p q _ _ _ _ _ (GType.good.below Q1 (Subtype.property _)) (GType.good.below Q2 (Subtype.property _)))))))
        refine wpQuiet_nil ?_
        rintro _ ⟨⟨w2, hw2⟩, rfl⟩
        clear R1 R2
        have hw3 := hw.trans (hw2.mono hw.size)
        generalize hd : (decide (p = q)) = d
        have E := Lib.hid hd; clear hd
        cases d
        · have E := neq_of_dec_false E.out
          have E := Lib.hid E
          go_wp2
          go_returns
          refine ⟨?_, hw3⟩
          have : x ≠ y := by
            rintro rfl
            exact E.out (Option.some.inj (P1.out.symm.trans P2.out))
          simp [this]
        · have E := neq_of_dec_true E.out
          have E := Lib.hid E
          go_wp2
          go_roundw
          case rel => exact ⟨k + 1, by omega, by go_num, by show _ = _; rw [take_snoc' P1.out, take_snoc' P2.out, ht.out, E.out], hw3⟩
          case measure => simp [intOf]; omega
      · go_wp2
        go_returns
        refine ⟨?_, hw⟩
        obtain rfl : k = n := by omega
        have h1 : x = y := by
          have := ht.out
          rwa [take_full X1, take_full X2] at this
        simp [h1]
  · go_enter Tryz.func27, Tryz.ntmps27
    go_wp2
    go_returns
    refine ⟨?_, Below.refl _ _⟩
    have h1 : x ≠ y := by
      rintro rfl
      exact hl (X1.out.trans X2.out.symm)
    simp [h1]


set_option maxHeartbeats 1000000 in
theorem eqNode_c (x y : GNode) (r s : List Value) (lo lo' : Nat) (w : World) (hx : GNode.R lo w r x) (hy : GNode.R lo' w s y) :
    Calls Tryz.prog 57 #[.agg r.toArray, .agg s.toArray] w fun e w' => e = .returned (.bool (decide (x = y))) ∧ Below w.heap.size w w' := by
  obtain ⟨x0, x1, x2, x3, x4, x5⟩ := x
  obtain ⟨y0, y1, y2, y3, y4, y5⟩ := y
  obtain ⟨u0, u1, rfl, ⟨wx0, wx1, wx2, wx3⟩, a0, a1⟩ := hx
  obtain ⟨v0, v1, rfl, ⟨wy0, wy1, wy2, wy3⟩, b0, b1⟩ := hy
  dsimp only at *
  go_enter Tryz.func57, Tryz.ntmps57
  go_wp2_with (first | (go_at_call 93; ((with_reducible refine (eqIntS_c x4 y4 u0 v0 lo lo' _ ?_ ?_).mono ?_); exact a0.below IntR.good (by go_grown); exact b0.below IntR.good (by go_grown); rintro e w1 ⟨rfl, hb⟩; have hw : Below w.heap.size w w1 := Below.trans (by go_grown) (hb.mono (by go_grown)); obtain ⟨hc, hf⟩ := bcell hb; have hz := hw.size; have hz1 := hb.size; have hs0 : w.heap.size < w1.heap.size := (by have h := hz1; (try simp only [World.size_alloc, World.size_setCell, World.size_drew] at h); omega); have hs1 : w.heap.size + 1 < w1.heap.size := (by have h := hz1; (try simp only [World.size_alloc, World.size_setCell, World.size_drew] at h); omega); clear hb)) | (go_at_call 94; ((with_reducible refine (eqPatS_c x5 y5 u1 v1 lo lo' _ ?_ ?_).mono ?_); exact a1.below GPat.good (by go_grown); exact b1.below GPat.good (by go_grown); rintro e w1 ⟨rfl, hb⟩; have hw : Below w.heap.size w w1 := Below.trans (by go_grown) (hb.mono (by go_grown)); obtain ⟨hc, hf⟩ := bcell hb; have hz := hw.size; have hz1 := hb.size; have hs0 : w.heap.size < w1.heap.size := (by have h := hz1; (try simp only [World.size_alloc, World.size_setCell, World.size_drew] at h); omega); have hs1 : w.heap.size + 1 < w1.heap.size := (by have h := hz1; (try simp only [World.size_alloc, World.size_setCell, World.size_drew] at h); omega); clear hb)))
  all_goals (go_returns; refine ⟨?_, by go_grown⟩; (try clear hc hf); simp_all [toList_eq] <;> grind)


set_option maxHeartbeats 1000000 in
theorem eqNodeS_c (x y : List GNode) (u v : Value) (lo lo' : Nat) (w : World) (hx : Sl GNode.R 6 lo w u x) (hy : Sl GNode.R 6 lo' w v y) :
    Calls Tryz.prog 28 #[u, v] w fun e w' => e = .returned (.bool (decide (x = y))) ∧ Below w.heap.size w w' := by
  obtain ⟨a1, c1, rfl, l1, m1, h1⟩ := hx
  obtain ⟨a2, c2, rfl, l2, m2, h2⟩ := hy
  obtain ⟨n, hn⟩ : ∃ n, n = x.length := ⟨_, rfl⟩
  obtain ⟨m, hm⟩ : ∃ m, m = y.length := ⟨_, rfl⟩
  rw [← hn] at l1 ⊢
  rw [← hm] at l2 ⊢
  have X1 := Lib.hid hn; have X2 := Lib.hid hm
  clear hn hm
  by_cases hl : n = m
  · subst hl
    go_enter Tryz.func28, Tryz.ntmps28
    go_wp2_with fail
    go_loopw [5] (fun i wr => ∃ k : Nat, k ≤ n ∧ i = .int .i64 k ∧ Hid (x.take k = y.take k) ∧ Below w.heap.size w wr) (fun i _ => n - (intOf i).toNat)
    case atStart => exact ⟨0, by omega, rfl, rfl, Below.refl _ _⟩
    case round =>
      obtain ⟨k, hk, rfl, ht, hw⟩ := hrel
      by_cases hlt : k < n
      · obtain ⟨b1, o1, p, s1, _, rfl, P1, q1, r1⟩ := (h1.below GNode.good hw).get X1 hlt
        obtain ⟨b2, o2, q, s2, _, rfl, P2, q2, r2⟩ := (h2.below GNode.good hw).get X2 hlt
        have Q1 := q1; have Q2 := q2
        obtain ⟨s0, s1, rfl, _⟩ := q1; obtain ⟨t0, t1, rfl, _⟩ := q2
        have R1 : ∀ z : Ext wr, z.val.cell? ⟨b1, o1 + k * 6, none⟩ = some (.int .i64 p.kind) ∧ z.val.cell? ⟨b1, o1 + k * 6 + 1, none⟩ = some (.int .i64 p.at_) ∧ z.val.cell? ⟨b1, o1 + k * 6 + 2, none⟩ = some (.int .i64 p.n) ∧ z.val.cell? ⟨b1, o1 + k * 6 + 3, none⟩ = some (.string p.s) ∧ z.val.cell? ⟨b1, o1 + k * 6 + 4, none⟩ = some (s0) ∧ z.val.cell? ⟨b1, o1 + k * 6 + 5, none⟩ = some (s1) := fun z => ⟨by simpa using (r1.ext z) 0 _ rfl, by simpa using (r1.ext z) 1 _ rfl, by simpa using (r1.ext z) 2 _ rfl, by simpa using (r1.ext z) 3 _ rfl, by simpa using (r1.ext z) 4 _ rfl, by simpa using (r1.ext z) 5 _ rfl⟩
        have R2 : ∀ z : Ext wr, z.val.cell? ⟨b2, o2 + k * 6, none⟩ = some (.int .i64 q.kind) ∧ z.val.cell? ⟨b2, o2 + k * 6 + 1, none⟩ = some (.int .i64 q.at_) ∧ z.val.cell? ⟨b2, o2 + k * 6 + 2, none⟩ = some (.int .i64 q.n) ∧ z.val.cell? ⟨b2, o2 + k * 6 + 3, none⟩ = some (.string q.s) ∧ z.val.cell? ⟨b2, o2 + k * 6 + 4, none⟩ = some (t0) ∧ z.val.cell? ⟨b2, o2 + k * 6 + 5, none⟩ = some (t1) := fun z => ⟨by simpa using (r2.ext z) 0 _ rfl, by simpa using (r2.ext z) 1 _ rfl, by simpa using (r2.ext z) 2 _ rfl, by simpa using (r2.ext z) 3 _ rfl, by simpa using (r2.ext z) 4 _ rfl, by simpa using (r2.ext z) 5 _ rfl⟩
        clear r1 r2
        go_wp2_with fail
        refine wp_region_ext_lit (by kernel_rfl) (by kernel_rfl) ?_
        repeat (go_big_quiet_step (((go_at_call 57; exact Calls.ext (eqNode_c p q _ _ _ _ _ (GNode.good.below Q1 (Subtype.property _)) (GNode.good.below Q2 (Subtype.property _)))))))
        refine wpQuiet_nil ?_
        rintro _ ⟨⟨w2, hw2⟩, rfl⟩
        clear R1 R2
        have hw3 := hw.trans (hw2.mono hw.size)
        generalize hd : (decide (p = q)) = d
        have E := Lib.hid hd; clear hd
        cases d
        · have E := neq_of_dec_false E.out
          have E := Lib.hid E
          go_wp2
          go_returns
          refine ⟨?_, hw3⟩
          have : x ≠ y := by
            rintro rfl
            exact E.out (Option.some.inj (P1.out.symm.trans P2.out))
          simp [this]
        · have E := neq_of_dec_true E.out
          have E := Lib.hid E
          go_wp2
          go_roundw
          case rel => exact ⟨k + 1, by omega, by go_num, by show _ = _; rw [take_snoc' P1.out, take_snoc' P2.out, ht.out, E.out], hw3⟩
          case measure => simp [intOf]; omega
      · go_wp2
        go_returns
        refine ⟨?_, hw⟩
        obtain rfl : k = n := by omega
        have h1 : x = y := by
          have := ht.out
          rwa [take_full X1, take_full X2] at this
        simp [h1]
  · go_enter Tryz.func28, Tryz.ntmps28
    go_wp2
    go_returns
    refine ⟨?_, Below.refl _ _⟩
    have h1 : x ≠ y := by
      rintro rfl
      exact hl (X1.out.trans X2.out.symm)
    simp [h1]


set_option maxHeartbeats 1000000 in
theorem eqProgram_c (x y : GProgram) (r s : List Value) (lo lo' : Nat) (w : World) (hx : GProgram.R lo w r x) (hy : GProgram.R lo' w s y) :
    Calls Tryz.prog 9 #[.agg r.toArray, .agg s.toArray] w fun e w' => e = .returned (.bool (decide (x = y))) ∧ Below w.heap.size w w' := by
  obtain ⟨x0, x1⟩ := x
  obtain ⟨y0, y1⟩ := y
  obtain ⟨u0, u1, rfl, _, a0, a1⟩ := hx
  obtain ⟨v0, v1, rfl, _, b0, b1⟩ := hy
  dsimp only at *
  go_enter Tryz.func9, Tryz.ntmps9
  go_wp2_with (first | (go_at_call 27; ((with_reducible refine (eqTypeS_c x0 y0 u0 v0 lo lo' _ ?_ ?_).mono ?_); exact a0.below GType.good (by go_grown); exact b0.below GType.good (by go_grown); rintro e w1 ⟨rfl, hb⟩; have hw : Below w.heap.size w w1 := Below.trans (by go_grown) (hb.mono (by go_grown)); obtain ⟨hc, hf⟩ := bcell hb; have hz := hw.size; have hz1 := hb.size; have hs0 : w.heap.size < w1.heap.size := (by have h := hz1; (try simp only [World.size_alloc, World.size_setCell, World.size_drew] at h); omega); have hs1 : w.heap.size + 1 < w1.heap.size := (by have h := hz1; (try simp only [World.size_alloc, World.size_setCell, World.size_drew] at h); omega); clear hb)) | (go_at_call 28; ((with_reducible refine (eqNodeS_c x1 y1 u1 v1 lo lo' _ ?_ ?_).mono ?_); exact a1.below GNode.good (by go_grown); exact b1.below GNode.good (by go_grown); rintro e w1 ⟨rfl, hb⟩; have hw : Below w.heap.size w w1 := Below.trans (by go_grown) (hb.mono (by go_grown)); obtain ⟨hc, hf⟩ := bcell hb; have hz := hw.size; have hz1 := hb.size; have hs0 : w.heap.size < w1.heap.size := (by have h := hz1; (try simp only [World.size_alloc, World.size_setCell, World.size_drew] at h); omega); have hs1 : w.heap.size + 1 < w1.heap.size := (by have h := hz1; (try simp only [World.size_alloc, World.size_setCell, World.size_drew] at h); omega); clear hb)))
  all_goals (go_returns; refine ⟨?_, by go_grown⟩; (try clear hc hf); simp_all [toList_eq] <;> grind)


end Go.Proofs.YtaimekaagmcmnaaGreat
