/- Parts of the proof, merged: PNode. -/
import Derived.Test.YtaimekaagmcmnaaGreatNe29
/- A pattern's node: when it is right; the program's test. The nodes are read as a value's nodes (the same cells). -/
namespace Go.Proofs.YtaimekaagmcmnaaGreat
open Go.RowKit
set_option linter.unusedVariables false
set_option linter.unusedSimpArgs false
attribute [local go_sem] Ext.cell

def pnOk (l : List GDNode) (x : GDNode) : Bool :=
  if x.kind = 1 ∨ x.kind = 6 then ((x.kids.length : Int) == 0) && ((x.n == 0) && x.s.toList.isEmpty)
  else if x.kind = 2 then ((x.kids.length : Int) == 0) && ((x.n == 0) && nameOk x.s)
  else if x.kind = 3 then ((x.kids.length : Int) == 0) && (x.s.toList.isEmpty && decide (-4611686018427387903 ≤ x.n ∧ x.n ≤ 4611686018427387903))
  else if x.kind = 5 then ((x.kids.length : Int) == 2) && ((x.n == 0) && x.s.toList.isEmpty)
  else if x.kind = 4 then (x.n == 0) && conShape x.s x.kids.length (pairOf l x.kids)
  else false
theorem pnOk_kind (l : List GDNode) (kd nn : Int) (s : ByteArray) (ks : List Int) :
    ((kd = 1 ∨ kd = 6) ∧ pnOk l ⟨kd, nn, s, ks⟩ = (((ks.length : Int) == 0) && ((nn == 0) && s.toList.isEmpty))) ∨
    (kd = 2 ∧ pnOk l ⟨kd, nn, s, ks⟩ = (((ks.length : Int) == 0) && ((nn == 0) && nameOk s))) ∨
    (kd = 3 ∧ pnOk l ⟨kd, nn, s, ks⟩ = (((ks.length : Int) == 0) && (s.toList.isEmpty && decide (-4611686018427387903 ≤ nn ∧ nn ≤ 4611686018427387903)))) ∨
    (kd = 4 ∧ pnOk l ⟨kd, nn, s, ks⟩ = ((nn == 0) && conShape s ks.length (pairOf l ks))) ∨
    (kd = 5 ∧ pnOk l ⟨kd, nn, s, ks⟩ = (((ks.length : Int) == 2) && ((nn == 0) && s.toList.isEmpty))) ∨
    ((kd == 1) = false ∧ (kd == 6) = false ∧ (kd == 2) = false ∧ (kd == 3) = false ∧ (kd == 4) = false ∧ (kd == 5) = false ∧ pnOk l ⟨kd, nn, s, ks⟩ = false) := by
  unfold pnOk
  dsimp only
  by_cases h1 : kd = 1
  · subst h1; exact .inl ⟨.inl rfl, rfl⟩
  by_cases h6 : kd = 6
  · subst h6; exact .inl ⟨.inr rfl, rfl⟩
  by_cases h2 : kd = 2
  · subst h2; exact .inr (.inl ⟨rfl, rfl⟩)
  by_cases h3 : kd = 3
  · subst h3; exact .inr (.inr (.inl ⟨rfl, rfl⟩))
  by_cases h4 : kd = 4
  · subst h4; exact .inr (.inr (.inr (.inl ⟨rfl, rfl⟩)))
  by_cases h5 : kd = 5
  · subst h5; exact .inr (.inr (.inr (.inr (.inl ⟨rfl, rfl⟩))))
  refine .inr (.inr (.inr (.inr (.inr ⟨by simpa using h1, by simpa using h6, by simpa using h2, by simpa using h3, by simpa using h4, by simpa using h5, ?_⟩))))
  rw [if_neg (by omega), if_neg h2, if_neg h3, if_neg h5, if_neg h4]

set_option maxRecDepth 100000 in
set_option maxHeartbeats 4000000 in
theorem pnOk_flat (kd nn : Int) (s : ByteArray) (hs : StrOk s) (ka da : Option Addr) (m kc dn dc : Nat) (w : World) (hk : kd ≠ 4) (hm : m ≤ 9223372036854775807) (l : List GDNode) (ks : List Int) (hl : ks.length = m) :
    Calls Tryz.prog 87 #[.agg #[.slice da dn dc], .agg #[.int .i64 kd, .int .i64 nn, .string s, .slice ka m kc]] w fun e w' => e = .returned (.bool (pnOk l ⟨kd, nn, s, ks⟩)) ∧ Below w.heap.size w w' := by
  rcases pnOk_kind l kd nn s ks with ⟨h, e⟩ | ⟨rfl, e⟩ | ⟨rfl, e⟩ | ⟨rfl, e⟩ | ⟨rfl, e⟩ | ⟨e1, e6, e2, e3, e4, e5, e⟩
  · rw [e, hl]
    clear hl e
    rcases h with rfl | rfl
    all_goals
      cases e0 : ((m : Int) == 0) <;> cases e1 : (nn == 0) <;> cases e2 : s.toList.isEmpty
      all_goals
        go_enter Tryz.func87, Tryz.ntmps87
        go_wp2_with fail
        go_returns
        exact ⟨by simp, by go_grown⟩
  · rw [e, hl]
    clear hl e
    have hc := fun W => impl_NameOk_c s hs W
    generalize nameOk s = q at *
    cases e0 : ((m : Int) == 0) <;> cases e1 : (nn == 0)
    all_goals
      go_enter Tryz.func87, Tryz.ntmps87
      go_upto_region 1 with fail
      have D : RowAt (w.alloc (.cells #[.slice da dn dc] 83)) (w.heap.size) 0 [.slice da dn dc] := RowAt.box w #[.slice da dn dc] 83
      have D := D.below (show Below (w.alloc (.cells #[.slice da dn dc] 83)).heap.size (w.alloc (.cells #[.slice da dn dc] 83)) ((w.alloc (.cells #[.slice da dn dc] 83)).alloc (.cells #[.int .i64 2, .int .i64 nn, .string s, .slice ka m kc] 111)) by go_grown)
      have N : RowAt ((w.alloc (.cells #[.slice da dn dc] 83)).alloc (.cells #[.int .i64 2, .int .i64 nn, .string s, .slice ka m kc] 111)) (w.heap.size + 1) 0 [.int .i64 2, .int .i64 nn, .string s, .slice ka m kc] := by have h := RowAt.box (w.alloc (.cells #[.slice da dn dc] 83)) #[.int .i64 2, .int .i64 nn, .string s, .slice ka m kc] 111; simp only [World.size_alloc] at h; exact h
      have hw : Below w.heap.size w ((w.alloc (.cells #[.slice da dn dc] 83)).alloc (.cells #[.int .i64 2, .int .i64 nn, .string s, .slice ka m kc] 111)) := by go_grown
      generalize ((w.alloc (.cells #[.slice da dn dc] 83)).alloc (.cells #[.int .i64 2, .int .i64 nn, .string s, .slice ka m kc] 111)) = w0 at *
      have d_0 := D.box1; have hsD := World.block_lt_of_cell? _ _ d_0; dsimp only at hsD; obtain ⟨n_0, n_1, n_2, n_3⟩ := N.box4; have hsN := World.block_lt_of_cell? _ _ n_0; dsimp only at hsN
      go_wp2_with (go_at_call 45; ((with_reducible refine (hc _).mono ?_); rintro e w1 ⟨rfl, hb⟩; have hw := hw.trans (hb.mono hw.size); have D := D.below hb; have d_0 := D.box1; have hsD := World.block_lt_of_cell? _ _ d_0; dsimp only at hsD; have N := N.below hb; obtain ⟨n_0, n_1, n_2, n_3⟩ := N.box4; have hsN := World.block_lt_of_cell? _ _ n_0; dsimp only at hsN; clear hb))
      go_returns
      exact ⟨by simp, hw⟩
  · rw [e, hl]
    clear hl e
    cases e0 : ((m : Int) == 0) <;> cases e1 : s.toList.isEmpty
    all_goals
      go_enter Tryz.func87, Tryz.ntmps87
      go_wp2_with (go_at_call 75; ((with_reducible refine (within_c _ _ _ _).mono ?_); rintro e w1 ⟨rfl, rfl⟩))
      go_returns
      exact ⟨by simp, by go_grown⟩
  · exact absurd rfl hk
  · rw [e, hl]
    clear hl e
    cases e0 : ((m : Int) == 2) <;> cases e1 : (nn == 0) <;> cases e2 : s.toList.isEmpty
    all_goals
      go_enter Tryz.func87, Tryz.ntmps87
      go_wp2_with fail
      go_returns
      exact ⟨by simp, by go_grown⟩
  · rw [e]
    clear e hk hl
    go_enter Tryz.func87, Tryz.ntmps87
    go_wp2_with fail
    go_returns
    exact ⟨rfl, by go_grown⟩

set_option maxRecDepth 100000 in
set_option maxHeartbeats 4000000 in
theorem pnOk_con (x : GDNode) (hx4 : x.kind = 4) (hs : StrOk x.s) (d : GData) (hd : d.nodes.length ≤ 1152921504606846976) (r1 r2 : List Value) (lo1 lo2 : Nat) (w : World) (hr1 : GData.R lo1 w r1 d) (hr2 : GDNode.R lo2 w r2 x)
    (hin : ∀ k, x.kids = [k] → 0 ≤ k ∧ k < d.nodes.length) :
    Calls Tryz.prog 87 #[.agg r1.toArray, .agg r2.toArray] w fun e w' => e = .returned (.bool (pnOk d.nodes x)) ∧ Below w.heap.size w w' := by
  obtain ⟨kd, nn, s, ks⟩ := x
  dsimp only at hx4
  subst hx4
  unfold pnOk
  dsimp only at *
  rw [if_neg (by decide), if_neg (by decide), if_neg (by decide), if_neg (by decide), if_pos rfl]
  obtain ⟨u0, rfl, -, a0⟩ := hr1
  obtain ⟨v0, rfl, -, b0⟩ := hr2
  obtain ⟨da, dc, rfl, dl, dm, a0⟩ := a0
  obtain ⟨ka, kc, rfl, kl, km, b0⟩ := b0
  dsimp only at *
  by_cases hn : nn = 0
  · subst hn
    by_cases h1 : ks.length = 1
    · obtain ⟨k, rfl⟩ : ∃ k, ks = [k] := List.length_eq_one_iff.1 h1
      obtain ⟨hk0, hk1⟩ := hin k rfl
      obtain ⟨j, rfl⟩ : ∃ j : Nat, k = j := ⟨k.toNat, by omega⟩
      obtain ⟨b1, o1, k', s1, _, rfl, P1, ⟨rfl, -⟩, q1⟩ := b0.get (k := 0) (Lib.hid rfl) (by simp)
      obtain rfl : (j : Int) = k' := by have := P1.out; simpa using this
      obtain ⟨b2, o2, y, s2, _, rfl, P2, hy, q2⟩ := a0.get (k := j) (Lib.hid rfl) (by omega)
      obtain ⟨y0, rfl, -, -⟩ := hy
      have e1 : w.cell? ⟨b1, o1, none⟩ = some (.int .i64 j) := by simpa using q1 0 _ rfl
      have e2 : w.cell? ⟨b2, o2 + j * 4, none⟩ = some (.int .i64 y.kind) := by simpa using q2 0 _ rfl
      have hp : pairOf d.nodes [(j : Int)] = (y.kind == 5) := by unfold pairOf kindAt; simp [P2.out]
      rw [hp]
      have hj : j < d.nodes.length := by omega
      clear hp hin hk0 hk1 h1 a0 b0 q1 q2 P1 P2
      show Calls Tryz.prog 87 #[.agg #[.slice (some ⟨b2, o2, none⟩) d.nodes.length dc], .agg #[.int .i64 4, .int .i64 0, .string s, .slice (some ⟨b1, o1, none⟩) 1 kc]] w fun e w' => e = .returned (.bool (conShape s 1 (y.kind == 5))) ∧ Below w.heap.size w w'
      have hc := fun W => conShape_c s 1 (y.kind == 5) hs W
      generalize d.nodes.length = n at *
      generalize y.kind = yk at *
      generalize conShape s 1 (yk == 5) = cs at *
      go_enter Tryz.func87, Tryz.ntmps87
      go_upto_region 1 with fail
      have D : RowAt (w.alloc (.cells #[.slice (some ⟨b2, o2, none⟩) n dc] 83)) (w.heap.size) 0 [.slice (some ⟨b2, o2, none⟩) n dc] := RowAt.box w #[.slice (some ⟨b2, o2, none⟩) n dc] 83
      have D := D.below (show Below (w.alloc (.cells #[.slice (some ⟨b2, o2, none⟩) n dc] 83)).heap.size (w.alloc (.cells #[.slice (some ⟨b2, o2, none⟩) n dc] 83)) ((w.alloc (.cells #[.slice (some ⟨b2, o2, none⟩) n dc] 83)).alloc (.cells #[.int .i64 4, .int .i64 0, .string s, .slice (some ⟨b1, o1, none⟩) 1 kc] 111)) by go_grown)
      have N : RowAt ((w.alloc (.cells #[.slice (some ⟨b2, o2, none⟩) n dc] 83)).alloc (.cells #[.int .i64 4, .int .i64 0, .string s, .slice (some ⟨b1, o1, none⟩) 1 kc] 111)) (w.heap.size + 1) 0 [.int .i64 4, .int .i64 0, .string s, .slice (some ⟨b1, o1, none⟩) 1 kc] := by have h := RowAt.box (w.alloc (.cells #[.slice (some ⟨b2, o2, none⟩) n dc] 83)) #[.int .i64 4, .int .i64 0, .string s, .slice (some ⟨b1, o1, none⟩) 1 kc] 111; simp only [World.size_alloc] at h; exact h
      have hw : Below w.heap.size w ((w.alloc (.cells #[.slice (some ⟨b2, o2, none⟩) n dc] 83)).alloc (.cells #[.int .i64 4, .int .i64 0, .string s, .slice (some ⟨b1, o1, none⟩) 1 kc] 111)) := by go_grown
      generalize ((w.alloc (.cells #[.slice (some ⟨b2, o2, none⟩) n dc] 83)).alloc (.cells #[.int .i64 4, .int .i64 0, .string s, .slice (some ⟨b1, o1, none⟩) 1 kc] 111)) = w0 at *
      have e1' := cell_below hw e1
      have e2' := cell_below hw e2
      have hb1' := World.block_lt_of_cell? _ _ e1'
      have hb2' := World.block_lt_of_cell? _ _ e2'
      dsimp only at hb1' hb2'
      clear e1 e2
      have d_0 := D.box1; have hsD := World.block_lt_of_cell? _ _ d_0; dsimp only at hsD; obtain ⟨n_0, n_1, n_2, n_3⟩ := N.box4; have hsN := World.block_lt_of_cell? _ _ n_0; dsimp only at hsN
      go_upto_region 11 with fail
      (refine wp_region_ext_lit (by kernel_rfl) (by kernel_rfl) ?_; (repeat (any_goals (first | go_big_quiet_step ((first | (go_at_call 109; exact Calls.ext_same (hc _)))) | quiet_step ((first | (go_at_call 109; exact Calls.ext_same (hc _)))) | (refine wpQuiet_step (fun K hK => ?_); go_simp; split <;> (refine hK _ ?_; clear hK K))))); all_goals (refine wpQuiet_nil ?_; rintro w1 ⟨⟨w2, hb⟩, rfl⟩; have hw := hw.trans (hb.mono hw.size); have D := D.below hb; have d_0 := D.box1; have hsD := World.block_lt_of_cell? _ _ d_0; dsimp only at hsD; have N := N.below hb; obtain ⟨n_0, n_1, n_2, n_3⟩ := N.box4; have hsN := World.block_lt_of_cell? _ _ n_0; dsimp only at hsN; clear hb))
      all_goals go_wp2
      all_goals go_returns
      all_goals exact ⟨rfl, hw⟩
    · have hp : pairOf d.nodes ks = false := by
        unfold pairOf
        match ks, h1 with
        | [], _ => rfl
        | [a], h => exact absurd rfl h
        | a :: b :: c, _ => rfl
      rw [hp]
      show Calls Tryz.prog 87 #[.agg #[.slice da d.nodes.length dc], .agg #[.int .i64 4, .int .i64 0, .string s, .slice ka ks.length kc]] w fun e w' => e = .returned (.bool (conShape s ks.length false)) ∧ Below w.heap.size w w'
      have hc := fun W => conShape_c s ks.length false hs W
      generalize d.nodes.length = n at *
      have e1 : ((ks.length : Int) == 1) = false := by simp; omega
      clear hp hin h1 a0 b0
      generalize ks.length = m at *
      generalize conShape s m false = cs at *
      go_enter Tryz.func87, Tryz.ntmps87
      go_upto_region 1 with fail
      have D : RowAt (w.alloc (.cells #[.slice da n dc] 83)) (w.heap.size) 0 [.slice da n dc] := RowAt.box w #[.slice da n dc] 83
      have D := D.below (show Below (w.alloc (.cells #[.slice da n dc] 83)).heap.size (w.alloc (.cells #[.slice da n dc] 83)) ((w.alloc (.cells #[.slice da n dc] 83)).alloc (.cells #[.int .i64 4, .int .i64 0, .string s, .slice ka m kc] 111)) by go_grown)
      have N : RowAt ((w.alloc (.cells #[.slice da n dc] 83)).alloc (.cells #[.int .i64 4, .int .i64 0, .string s, .slice ka m kc] 111)) (w.heap.size + 1) 0 [.int .i64 4, .int .i64 0, .string s, .slice ka m kc] := by have h := RowAt.box (w.alloc (.cells #[.slice da n dc] 83)) #[.int .i64 4, .int .i64 0, .string s, .slice ka m kc] 111; simp only [World.size_alloc] at h; exact h
      have hw : Below w.heap.size w ((w.alloc (.cells #[.slice da n dc] 83)).alloc (.cells #[.int .i64 4, .int .i64 0, .string s, .slice ka m kc] 111)) := by go_grown
      generalize ((w.alloc (.cells #[.slice da n dc] 83)).alloc (.cells #[.int .i64 4, .int .i64 0, .string s, .slice ka m kc] 111)) = w0 at *
      have d_0 := D.box1; have hsD := World.block_lt_of_cell? _ _ d_0; dsimp only at hsD; obtain ⟨n_0, n_1, n_2, n_3⟩ := N.box4; have hsN := World.block_lt_of_cell? _ _ n_0; dsimp only at hsN
      go_upto_region 11 with fail
      (refine wp_region_ext_lit (by kernel_rfl) (by kernel_rfl) ?_; (repeat (any_goals (first | go_big_quiet_step ((first | (go_at_call 109; exact Calls.ext_same (hc _)))) | quiet_step ((first | (go_at_call 109; exact Calls.ext_same (hc _)))) | (refine wpQuiet_step (fun K hK => ?_); go_simp; split <;> (refine hK _ ?_; clear hK K))))); all_goals (refine wpQuiet_nil ?_; rintro w1 ⟨⟨w2, hb⟩, rfl⟩; have hw := hw.trans (hb.mono hw.size); have D := D.below hb; have d_0 := D.box1; have hsD := World.block_lt_of_cell? _ _ d_0; dsimp only at hsD; have N := N.below hb; obtain ⟨n_0, n_1, n_2, n_3⟩ := N.box4; have hsN := World.block_lt_of_cell? _ _ n_0; dsimp only at hsN; clear hb))
      all_goals go_wp2
      all_goals go_returns
      all_goals exact ⟨rfl, hw⟩
  · have en : (nn == 0) = false := by simpa using hn
    rw [en]
    show Calls Tryz.prog 87 #[.agg #[.slice da d.nodes.length dc], .agg #[.int .i64 4, .int .i64 nn, .string s, .slice ka ks.length kc]] w fun e w' => e = .returned (.bool false) ∧ Below w.heap.size w w'
    generalize d.nodes.length = n at *
    clear hin hn a0 b0
    generalize ks.length = m at *
    go_enter Tryz.func87, Tryz.ntmps87
    go_upto_region 1 with fail
    have D : RowAt (w.alloc (.cells #[.slice da n dc] 83)) (w.heap.size) 0 [.slice da n dc] := RowAt.box w #[.slice da n dc] 83
    have D := D.below (show Below (w.alloc (.cells #[.slice da n dc] 83)).heap.size (w.alloc (.cells #[.slice da n dc] 83)) ((w.alloc (.cells #[.slice da n dc] 83)).alloc (.cells #[.int .i64 4, .int .i64 nn, .string s, .slice ka m kc] 111)) by go_grown)
    have N : RowAt ((w.alloc (.cells #[.slice da n dc] 83)).alloc (.cells #[.int .i64 4, .int .i64 nn, .string s, .slice ka m kc] 111)) (w.heap.size + 1) 0 [.int .i64 4, .int .i64 nn, .string s, .slice ka m kc] := by have h := RowAt.box (w.alloc (.cells #[.slice da n dc] 83)) #[.int .i64 4, .int .i64 nn, .string s, .slice ka m kc] 111; simp only [World.size_alloc] at h; exact h
    have hw : Below w.heap.size w ((w.alloc (.cells #[.slice da n dc] 83)).alloc (.cells #[.int .i64 4, .int .i64 nn, .string s, .slice ka m kc] 111)) := by go_grown
    generalize ((w.alloc (.cells #[.slice da n dc] 83)).alloc (.cells #[.int .i64 4, .int .i64 nn, .string s, .slice ka m kc] 111)) = w0 at *
    have d_0 := D.box1; have hsD := World.block_lt_of_cell? _ _ d_0; dsimp only at hsD; obtain ⟨n_0, n_1, n_2, n_3⟩ := N.box4; have hsN := World.block_lt_of_cell? _ _ n_0; dsimp only at hsN
    go_upto_region 11 with fail
    (refine wp_region_ext_lit (by kernel_rfl) (by kernel_rfl) ?_; (repeat (any_goals (first | go_big_quiet_step ((first | fail)) | quiet_step ((first | fail)) | (refine wpQuiet_step (fun K hK => ?_); go_simp; split <;> (refine hK _ ?_; clear hK K))))); all_goals (refine wpQuiet_nil ?_; rintro w1 ⟨⟨w2, hb⟩, rfl⟩; have hw := hw.trans (hb.mono hw.size); have D := D.below hb; have d_0 := D.box1; have hsD := World.block_lt_of_cell? _ _ d_0; dsimp only at hsD; have N := N.below hb; obtain ⟨n_0, n_1, n_2, n_3⟩ := N.box4; have hsN := World.block_lt_of_cell? _ _ n_0; dsimp only at hsN; clear hb))
    all_goals go_wp2
    all_goals go_returns
    all_goals exact ⟨rfl, hw⟩

theorem patNodeOk_c (x : GDNode) (hs : StrOk x.s) (d : GData) (hd : d.nodes.length ≤ 1152921504606846976) (r1 r2 : List Value) (lo1 lo2 : Nat) (w : World) (hr1 : GData.R lo1 w r1 d) (hr2 : GDNode.R lo2 w r2 x)
    (hin : ∀ k ∈ x.kids, 0 ≤ k ∧ k < d.nodes.length) :
    Calls Tryz.prog 87 #[.agg r1.toArray, .agg r2.toArray] w fun e w' => e = .returned (.bool (pnOk d.nodes x)) ∧ Below w.heap.size w w' := by
  by_cases h4 : x.kind = 4
  · exact pnOk_con x h4 hs d hd r1 r2 lo1 lo2 w hr1 hr2 fun k h => hin k (by rw [h]; simp)
  · obtain ⟨u0, rfl, -, a0⟩ := hr1
    obtain ⟨v0, rfl, -, b0⟩ := hr2
    obtain ⟨da, dc, rfl, dl, dm, a0⟩ := a0
    obtain ⟨ka, kc, rfl, kl, km, b0⟩ := b0
    exact pnOk_flat x.kind x.n x.s hs ka da x.kids.length kc d.nodes.length dc w h4 (by omega) d.nodes x.kids rfl

end Go.Proofs.YtaimekaagmcmnaaGreat
