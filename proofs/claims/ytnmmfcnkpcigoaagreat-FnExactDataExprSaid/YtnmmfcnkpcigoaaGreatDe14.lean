/- Parts of the proof, merged: Shape, DNode, Find, FindDNode, Ends. -/
import Derived.Test.YtnmmfcnkpcigoaaGreatRows
import Derived.Shelf.Abstract
import Derived.Test.YtnmmfcnkpcigoaaGreatDe13
/- How many children a constructor may have: the program's test and the reference's. -/
namespace Go.Proofs.YtnmmfcnkpcigoaaGreat
open Go.RowKit
set_option linter.unusedVariables false
set_option linter.unusedSimpArgs false
attribute [local go_sem] Ext.cell

def sTrue : List UInt8 := [116, 114, 117, 101]
def sFalse : List UInt8 := [102, 97, 108, 115, 101]
def sNil : List UInt8 := [91, 93]
def sCons : List UInt8 := [58, 58]
def conShape (s : ByteArray) (k : Int) (pair : Bool) : Bool :=
  if (s.toList == sTrue || s.toList == sFalse || s.toList == sNil) = true then k == 0
  else if (s.toList == sCons) = true then (k == 1) && pair
  else conOk s && decide (k ≤ 1)

set_option maxHeartbeats 1000000 in
theorem conShape_c (s : ByteArray) (k : Int) (pair : Bool) (hs : StrOk s) (w : World) : Calls Tryz.prog 77 #[.string s, .int .i64 k, .bool pair] w fun e w' => e = .returned (.bool (conShape s k pair)) ∧ w = w' := by
  have c1 := ConOk_c s hs w
  unfold conShape
  cases e1 : (s.toList == sTrue) <;> cases e2 : (s.toList == sFalse) <;> cases e3 : (s.toList == sNil) <;> cases e4 : (s.toList == sCons)
  case false.false.false.false =>
    generalize conOk s = c at *
    unfold sTrue sFalse sNil sCons at *
    cases c
    all_goals
      go_enter Tryz.func77, Tryz.ntmps77
      go_wp2_with (go_at_call 105; ((with_reducible refine (c1).mono ?_); rintro e w1 ⟨rfl, rfl⟩))
      go_returns
      exact ⟨rfl, rfl⟩
  all_goals
    clear c1
    unfold sTrue sFalse sNil sCons at *
    cases e5 : (k == 1)
  all_goals
    go_enter Tryz.func77, Tryz.ntmps77
    go_wp2_with fail
    go_returns
    exact ⟨rfl, rfl⟩

set_option maxHeartbeats 1000000 in
theorem l04ConOk_c (s : ByteArray) (k : Int) (pair : Bool) (hs : StrOk s) (w : World) : Calls Tryz.prog 34 #[.string s, .int .i64 k, .bool pair] w fun e w' => e = .returned (.bool (conShape s k pair)) ∧ w = w' := by
  have c1 := specConOk_c s hs w
  have x1 : (s.toList == sCons) = true → (s.toList == sTrue) = false ∧ (s.toList == sFalse) = false ∧ (s.toList == sNil) = false := by
    intro h
    rw [eq_of_beq h]
    decide
  unfold conShape
  cases e4 : (s.toList == sCons)
  · clear x1
    cases e1 : (s.toList == sTrue) <;> cases e2 : (s.toList == sFalse) <;> cases e3 : (s.toList == sNil)
    case false.false.false =>
      generalize conOk s = c at *
      unfold sTrue sFalse sNil sCons at *
      cases c
      all_goals
        go_enter Tryz.func34, Tryz.ntmps34
        go_wp2_with (go_at_call 67; ((with_reducible refine (c1).mono ?_); rintro e w1 ⟨rfl, rfl⟩))
        go_returns
        exact ⟨rfl, rfl⟩
    all_goals
      clear c1
      unfold sTrue sFalse sNil sCons at *
      go_enter Tryz.func34, Tryz.ntmps34
      go_wp2_with fail
      go_returns
      exact ⟨rfl, rfl⟩
  · obtain ⟨e1, e2, e3⟩ := x1 e4
    rw [e1, e2, e3]
    clear x1 c1
    unfold sTrue sFalse sNil sCons at *
    cases e5 : (k == 1)
    all_goals
      go_enter Tryz.func34, Tryz.ntmps34
      go_wp2_with fail
      go_returns
      exact ⟨rfl, rfl⟩

end Go.Proofs.YtnmmfcnkpcigoaaGreat

/- A value's node: when it is right; the program's test. -/
namespace Go.Proofs.YtnmmfcnkpcigoaaGreat
open Go.RowKit
set_option linter.unusedVariables false
set_option linter.unusedSimpArgs false
attribute [local go_sem] Ext.cell

def kindAt (l : List GDNode) (k : Int) : Int := if 0 ≤ k then (l[k.toNat]?.map (·.kind)).getD 0 else 0
def pairOf (l : List GDNode) (ks : List Int) : Bool := match ks with
  | [k] => kindAt l k == 5
  | _ => false
def nodeOk (l : List GDNode) (x : GDNode) : Bool :=
  if x.kind = 3 then ((x.kids.length : Int) == 0) && (x.s.toList.isEmpty && decide (-4611686018427387904 ≤ x.n ∧ x.n ≤ 4611686018427387903))
  else if x.kind = 2 then ((x.kids.length : Int) == 0) && (x.n == 0)
  else if x.kind = 6 then ((x.kids.length : Int) == 0) && ((x.n == 0) && x.s.toList.isEmpty)
  else if x.kind = 5 then ((x.kids.length : Int) == 2) && ((x.n == 0) && x.s.toList.isEmpty)
  else if x.kind = 4 then (x.n == 0) && conShape x.s x.kids.length (pairOf l x.kids)
  else false

set_option maxRecDepth 100000 in
set_option maxHeartbeats 4000000 in
theorem dataNodeOk_flat (kd nn : Int) (s : ByteArray) (ka da : Option Addr) (m kc dn dc : Nat) (w : World) (hk : kd ≠ 4) (hm : m ≤ 9223372036854775807) (l : List GDNode) (ks : List Int) (hl : ks.length = m) :
    Calls Tryz.prog 47 #[.agg #[.slice da dn dc], .agg #[.int .i64 kd, .int .i64 nn, .string s, .slice ka m kc]] w fun e w' => e = .returned (.bool (nodeOk l ⟨kd, nn, s, ks⟩)) ∧ Below w.heap.size w w' := by
  unfold nodeOk
  dsimp only
  rw [hl, if_neg hk]
  clear hl
  by_cases h3 : kd = 3
  · subst h3
    cases e0 : ((m : Int) == 0) <;> cases e1 : s.toList.isEmpty
    all_goals
      go_enter Tryz.func47, Tryz.ntmps47
      go_wp2_with (go_at_call 42; ((with_reducible refine (within_c _ _ _ _).mono ?_); rintro e w1 ⟨rfl, rfl⟩))
      go_returns
      exact ⟨by simp, by go_grown⟩
  by_cases h2 : kd = 2
  · subst h2
    cases e0 : ((m : Int) == 0) <;> cases e1 : (nn == 0)
    all_goals
      go_enter Tryz.func47, Tryz.ntmps47
      go_wp2_with fail
      go_returns
      exact ⟨by simp, by go_grown⟩
  by_cases h6 : kd = 6
  · subst h6
    cases e0 : ((m : Int) == 0) <;> cases e1 : (nn == 0) <;> cases e2 : s.toList.isEmpty
    all_goals
      go_enter Tryz.func47, Tryz.ntmps47
      go_wp2_with fail
      go_returns
      exact ⟨by simp, by go_grown⟩
  by_cases h5 : kd = 5
  · subst h5
    cases e0 : ((m : Int) == 2) <;> cases e1 : (nn == 0) <;> cases e2 : s.toList.isEmpty
    all_goals
      go_enter Tryz.func47, Tryz.ntmps47
      go_wp2_with fail
      go_returns
      exact ⟨by simp, by go_grown⟩
  rw [if_neg h3, if_neg h2, if_neg h6, if_neg h5]
  have e3 : (kd == 3) = false := by simpa using h3
  have e2 : (kd == 2) = false := by simpa using h2
  have e6 : (kd == 6) = false := by simpa using h6
  have e5 : (kd == 5) = false := by simpa using h5
  have e4 : (kd == 4) = false := by simpa using hk
  clear h3 h2 h6 h5 hk
  go_enter Tryz.func47, Tryz.ntmps47
  go_wp2_with fail
  go_returns
  exact ⟨rfl, by go_grown⟩

set_option maxRecDepth 100000 in
set_option maxHeartbeats 4000000 in
theorem dataNodeOk_con (x : GDNode) (hx4 : x.kind = 4) (hs : StrOk x.s) (d : GData) (hd : d.nodes.length ≤ 1152921504606846976) (r1 r2 : List Value) (lo1 lo2 : Nat) (w : World) (hr1 : GData.R lo1 w r1 d) (hr2 : GDNode.R lo2 w r2 x)
    (hin : ∀ k, x.kids = [k] → 0 ≤ k ∧ k < d.nodes.length) :
    Calls Tryz.prog 47 #[.agg r1.toArray, .agg r2.toArray] w fun e w' => e = .returned (.bool (nodeOk d.nodes x)) ∧ Below w.heap.size w w' := by
  obtain ⟨kd, nn, s, ks⟩ := x
  dsimp only at hx4
  subst hx4
  unfold nodeOk
  dsimp only at *
  rw [if_neg (by decide), if_neg (by decide), if_neg (by decide), if_neg (by decide), if_pos rfl]
  obtain ⟨u0, rfl, -, a0⟩ := hr1
  obtain ⟨v0, rfl, -, b0⟩ := hr2
  obtain ⟨da, dc, rfl, dl, dm, a0⟩ := a0
  obtain ⟨ka, kc, rfl, kl, km, b0⟩ := b0
  dsimp only at *
  by_cases hn : nn = 0
  · subst hn
    by_cases h1 : ks.length = 1
    · obtain ⟨k, rfl⟩ : ∃ k, ks = [k] := List.length_eq_one_iff.1 h1
      obtain ⟨hk0, hk1⟩ := hin k rfl
      obtain ⟨j, rfl⟩ : ∃ j : Nat, k = j := ⟨k.toNat, by omega⟩
      obtain ⟨b1, o1, k', s1, _, rfl, P1, ⟨rfl, -⟩, q1⟩ := b0.get (k := 0) (Lib.hid rfl) (by simp)
      obtain rfl : (j : Int) = k' := by have := P1.out; simpa using this
      obtain ⟨b2, o2, y, s2, _, rfl, P2, hy, q2⟩ := a0.get (k := j) (Lib.hid rfl) (by omega)
      obtain ⟨y0, rfl, -, -⟩ := hy
      have e1 : w.cell? ⟨b1, o1, none⟩ = some (.int .i64 j) := by simpa using q1 0 _ rfl
      have e2 : w.cell? ⟨b2, o2 + j * 4, none⟩ = some (.int .i64 y.kind) := by simpa using q2 0 _ rfl
      have hp : pairOf d.nodes [(j : Int)] = (y.kind == 5) := by unfold pairOf kindAt; simp [P2.out]
      rw [hp]
      have hj : j < d.nodes.length := by omega
      clear hp hin hk0 hk1 h1 a0 b0 q1 q2 P1 P2
      show Calls Tryz.prog 47 #[.agg #[.slice (some ⟨b2, o2, none⟩) d.nodes.length dc], .agg #[.int .i64 4, .int .i64 0, .string s, .slice (some ⟨b1, o1, none⟩) 1 kc]] w fun e w' => e = .returned (.bool (conShape s 1 (y.kind == 5))) ∧ Below w.heap.size w w'
      have hc := fun W => conShape_c s 1 (y.kind == 5) hs W
      generalize d.nodes.length = n at *
      generalize y.kind = yk at *
      generalize conShape s 1 (yk == 5) = cs at *
      go_enter Tryz.func47, Tryz.ntmps47
      go_upto_region 1 with fail
      have D : RowAt (w.alloc (.cells #[.slice (some ⟨b2, o2, none⟩) n dc] 34)) (w.heap.size) 0 [.slice (some ⟨b2, o2, none⟩) n dc] := RowAt.box w #[.slice (some ⟨b2, o2, none⟩) n dc] 34
      have D := D.below (show Below (w.alloc (.cells #[.slice (some ⟨b2, o2, none⟩) n dc] 34)).heap.size (w.alloc (.cells #[.slice (some ⟨b2, o2, none⟩) n dc] 34)) ((w.alloc (.cells #[.slice (some ⟨b2, o2, none⟩) n dc] 34)).alloc (.cells #[.int .i64 4, .int .i64 0, .string s, .slice (some ⟨b1, o1, none⟩) 1 kc] 69)) by go_grown)
      have N : RowAt ((w.alloc (.cells #[.slice (some ⟨b2, o2, none⟩) n dc] 34)).alloc (.cells #[.int .i64 4, .int .i64 0, .string s, .slice (some ⟨b1, o1, none⟩) 1 kc] 69)) (w.heap.size + 1) 0 [.int .i64 4, .int .i64 0, .string s, .slice (some ⟨b1, o1, none⟩) 1 kc] := by have h := RowAt.box (w.alloc (.cells #[.slice (some ⟨b2, o2, none⟩) n dc] 34)) #[.int .i64 4, .int .i64 0, .string s, .slice (some ⟨b1, o1, none⟩) 1 kc] 69; simp only [World.size_alloc] at h; exact h
      have hw : Below w.heap.size w ((w.alloc (.cells #[.slice (some ⟨b2, o2, none⟩) n dc] 34)).alloc (.cells #[.int .i64 4, .int .i64 0, .string s, .slice (some ⟨b1, o1, none⟩) 1 kc] 69)) := by go_grown
      generalize ((w.alloc (.cells #[.slice (some ⟨b2, o2, none⟩) n dc] 34)).alloc (.cells #[.int .i64 4, .int .i64 0, .string s, .slice (some ⟨b1, o1, none⟩) 1 kc] 69)) = w0 at *
      have e1' := cell_below hw e1
      have e2' := cell_below hw e2
      have hb1' := World.block_lt_of_cell? _ _ e1'
      have hb2' := World.block_lt_of_cell? _ _ e2'
      dsimp only at hb1' hb2'
      clear e1 e2
      have d_0 := D.box1; have hsD := World.block_lt_of_cell? _ _ d_0; dsimp only at hsD; obtain ⟨n_0, n_1, n_2, n_3⟩ := N.box4; have hsN := World.block_lt_of_cell? _ _ n_0; dsimp only at hsN
      go_upto_region 12 with fail
      (refine wp_region_ext_lit (by kernel_rfl) (by kernel_rfl) ?_; (repeat (any_goals (first | go_big_quiet_step ((first | (go_at_call 77; exact Calls.ext_same (hc _)))) | quiet_step ((first | (go_at_call 77; exact Calls.ext_same (hc _)))) | (refine wpQuiet_step (fun K hK => ?_); go_simp; split <;> (refine hK _ ?_; clear hK K))))); all_goals (refine wpQuiet_nil ?_; rintro w1 ⟨⟨w2, hb⟩, rfl⟩; have hw := hw.trans (hb.mono hw.size); have D := D.below hb; have d_0 := D.box1; have hsD := World.block_lt_of_cell? _ _ d_0; dsimp only at hsD; have N := N.below hb; obtain ⟨n_0, n_1, n_2, n_3⟩ := N.box4; have hsN := World.block_lt_of_cell? _ _ n_0; dsimp only at hsN; clear hb))
      all_goals go_wp2
      all_goals go_returns
      all_goals exact ⟨rfl, hw⟩
    · have hp : pairOf d.nodes ks = false := by
        unfold pairOf
        match ks, h1 with
        | [], _ => rfl
        | [a], h => exact absurd rfl h
        | a :: b :: c, _ => rfl
      rw [hp]
      show Calls Tryz.prog 47 #[.agg #[.slice da d.nodes.length dc], .agg #[.int .i64 4, .int .i64 0, .string s, .slice ka ks.length kc]] w fun e w' => e = .returned (.bool (conShape s ks.length false)) ∧ Below w.heap.size w w'
      have hc := fun W => conShape_c s ks.length false hs W
      generalize d.nodes.length = n at *
      have e1 : ((ks.length : Int) == 1) = false := by simp; omega
      clear hp hin h1 a0 b0
      generalize ks.length = m at *
      generalize conShape s m false = cs at *
      go_enter Tryz.func47, Tryz.ntmps47
      go_upto_region 1 with fail
      have D : RowAt (w.alloc (.cells #[.slice da n dc] 34)) (w.heap.size) 0 [.slice da n dc] := RowAt.box w #[.slice da n dc] 34
      have D := D.below (show Below (w.alloc (.cells #[.slice da n dc] 34)).heap.size (w.alloc (.cells #[.slice da n dc] 34)) ((w.alloc (.cells #[.slice da n dc] 34)).alloc (.cells #[.int .i64 4, .int .i64 0, .string s, .slice ka m kc] 69)) by go_grown)
      have N : RowAt ((w.alloc (.cells #[.slice da n dc] 34)).alloc (.cells #[.int .i64 4, .int .i64 0, .string s, .slice ka m kc] 69)) (w.heap.size + 1) 0 [.int .i64 4, .int .i64 0, .string s, .slice ka m kc] := by have h := RowAt.box (w.alloc (.cells #[.slice da n dc] 34)) #[.int .i64 4, .int .i64 0, .string s, .slice ka m kc] 69; simp only [World.size_alloc] at h; exact h
      have hw : Below w.heap.size w ((w.alloc (.cells #[.slice da n dc] 34)).alloc (.cells #[.int .i64 4, .int .i64 0, .string s, .slice ka m kc] 69)) := by go_grown
      generalize ((w.alloc (.cells #[.slice da n dc] 34)).alloc (.cells #[.int .i64 4, .int .i64 0, .string s, .slice ka m kc] 69)) = w0 at *
      have d_0 := D.box1; have hsD := World.block_lt_of_cell? _ _ d_0; dsimp only at hsD; obtain ⟨n_0, n_1, n_2, n_3⟩ := N.box4; have hsN := World.block_lt_of_cell? _ _ n_0; dsimp only at hsN
      go_upto_region 12 with fail
      (refine wp_region_ext_lit (by kernel_rfl) (by kernel_rfl) ?_; (repeat (any_goals (first | go_big_quiet_step ((first | (go_at_call 77; exact Calls.ext_same (hc _)))) | quiet_step ((first | (go_at_call 77; exact Calls.ext_same (hc _)))) | (refine wpQuiet_step (fun K hK => ?_); go_simp; split <;> (refine hK _ ?_; clear hK K))))); all_goals (refine wpQuiet_nil ?_; rintro w1 ⟨⟨w2, hb⟩, rfl⟩; have hw := hw.trans (hb.mono hw.size); have D := D.below hb; have d_0 := D.box1; have hsD := World.block_lt_of_cell? _ _ d_0; dsimp only at hsD; have N := N.below hb; obtain ⟨n_0, n_1, n_2, n_3⟩ := N.box4; have hsN := World.block_lt_of_cell? _ _ n_0; dsimp only at hsN; clear hb))
      all_goals go_wp2
      all_goals go_returns
      all_goals exact ⟨rfl, hw⟩
  · have en : (nn == 0) = false := by simpa using hn
    rw [en]
    show Calls Tryz.prog 47 #[.agg #[.slice da d.nodes.length dc], .agg #[.int .i64 4, .int .i64 nn, .string s, .slice ka ks.length kc]] w fun e w' => e = .returned (.bool false) ∧ Below w.heap.size w w'
    generalize d.nodes.length = n at *
    clear hin hn a0 b0
    generalize ks.length = m at *
    go_enter Tryz.func47, Tryz.ntmps47
    go_upto_region 1 with fail
    have D : RowAt (w.alloc (.cells #[.slice da n dc] 34)) (w.heap.size) 0 [.slice da n dc] := RowAt.box w #[.slice da n dc] 34
    have D := D.below (show Below (w.alloc (.cells #[.slice da n dc] 34)).heap.size (w.alloc (.cells #[.slice da n dc] 34)) ((w.alloc (.cells #[.slice da n dc] 34)).alloc (.cells #[.int .i64 4, .int .i64 nn, .string s, .slice ka m kc] 69)) by go_grown)
    have N : RowAt ((w.alloc (.cells #[.slice da n dc] 34)).alloc (.cells #[.int .i64 4, .int .i64 nn, .string s, .slice ka m kc] 69)) (w.heap.size + 1) 0 [.int .i64 4, .int .i64 nn, .string s, .slice ka m kc] := by have h := RowAt.box (w.alloc (.cells #[.slice da n dc] 34)) #[.int .i64 4, .int .i64 nn, .string s, .slice ka m kc] 69; simp only [World.size_alloc] at h; exact h
    have hw : Below w.heap.size w ((w.alloc (.cells #[.slice da n dc] 34)).alloc (.cells #[.int .i64 4, .int .i64 nn, .string s, .slice ka m kc] 69)) := by go_grown
    generalize ((w.alloc (.cells #[.slice da n dc] 34)).alloc (.cells #[.int .i64 4, .int .i64 nn, .string s, .slice ka m kc] 69)) = w0 at *
    have d_0 := D.box1; have hsD := World.block_lt_of_cell? _ _ d_0; dsimp only at hsD; obtain ⟨n_0, n_1, n_2, n_3⟩ := N.box4; have hsN := World.block_lt_of_cell? _ _ n_0; dsimp only at hsN
    go_upto_region 12 with fail
    (refine wp_region_ext_lit (by kernel_rfl) (by kernel_rfl) ?_; (repeat (any_goals (first | go_big_quiet_step ((first | fail)) | quiet_step ((first | fail)) | (refine wpQuiet_step (fun K hK => ?_); go_simp; split <;> (refine hK _ ?_; clear hK K))))); all_goals (refine wpQuiet_nil ?_; rintro w1 ⟨⟨w2, hb⟩, rfl⟩; have hw := hw.trans (hb.mono hw.size); have D := D.below hb; have d_0 := D.box1; have hsD := World.block_lt_of_cell? _ _ d_0; dsimp only at hsD; have N := N.below hb; obtain ⟨n_0, n_1, n_2, n_3⟩ := N.box4; have hsN := World.block_lt_of_cell? _ _ n_0; dsimp only at hsN; clear hb))
    all_goals go_wp2
    all_goals go_returns
    all_goals exact ⟨rfl, hw⟩

theorem dataNodeOk_c (x : GDNode) (hs : StrOk x.s) (d : GData) (hd : d.nodes.length ≤ 1152921504606846976) (r1 r2 : List Value) (lo1 lo2 : Nat) (w : World) (hr1 : GData.R lo1 w r1 d) (hr2 : GDNode.R lo2 w r2 x)
    (hin : ∀ k ∈ x.kids, 0 ≤ k ∧ k < d.nodes.length) :
    Calls Tryz.prog 47 #[.agg r1.toArray, .agg r2.toArray] w fun e w' => e = .returned (.bool (nodeOk d.nodes x)) ∧ Below w.heap.size w w' := by
  by_cases h4 : x.kind = 4
  · exact dataNodeOk_con x h4 hs d hd r1 r2 lo1 lo2 w hr1 hr2 fun k h => hin k (by rw [h]; simp)
  · obtain ⟨u0, rfl, -, a0⟩ := hr1
    obtain ⟨v0, rfl, -, b0⟩ := hr2
    obtain ⟨da, dc, rfl, dl, dm, a0⟩ := a0
    obtain ⟨ka, kc, rfl, kl, km, b0⟩ := b0
    exact dataNodeOk_flat x.kind x.n x.s ka da x.kids.length kc d.nodes.length dc w h4 (by omega) d.nodes x.kids rfl

end Go.Proofs.YtnmmfcnkpcigoaaGreat

/- What an index search hands back. -/
namespace Go.Proofs.YtnmmfcnkpcigoaaGreat
open Go.RowKit

def IdxPost {α : Type} (p : α → Bool) (xs : List α) (w : World) (e : Ending) (w' : World) : Prop :=
  ∃ n : Int, e = .returned (.int .i64 n) ∧ decide (0 ≤ n) = xs.any p ∧ Below w.heap.size w w'

end Go.Proofs.YtnmmfcnkpcigoaaGreat

/- slices.ContainsFunc over []impl.DNode, with a closure that answers for each element and may make memory. -/
namespace Go.Proofs.YtnmmfcnkpcigoaaGreat
open Go.RowKit
set_option linter.unusedVariables false
set_option linter.unusedSimpArgs false
attribute [local go_sem] Ext.cell

set_option maxRecDepth 100000 in
set_option maxHeartbeats 4000000 in
theorem indexFuncDNode_c (xs : List GDNode) (p : GDNode → Bool) (g : Nat) (lb : Array Value) (lo : Nat) (u : Value) (w : World) (hu : Sl GDNode.R 4 lo w u xs)
    (hp : ∀ (i : Nat) x r W, xs[i]? = some x → Below w.heap.size w W → GDNode.R lo W r x → Calls Tryz.prog g (#[.agg r.toArray] ++ lb) W fun e w' => e = .returned (.bool (p x)) ∧ Below W.heap.size W w') (eg : ∀ args w, (callFunc g args).run Tryz.prog w = .ok (.enter g args) w) :
    Calls Tryz.prog 76 #[u, .func (.func g) #[] lb] w (IdxPost p xs w) := by
  obtain ⟨ua, uc, rfl, ul, um, h0⟩ := hu
  replace hp := Lib.hid hp
  replace h0 := Lib.hid h0
  obtain ⟨m, hm⟩ : ∃ m, m = xs.length := ⟨_, rfl⟩
  rw [← hm] at ul ⊢
  replace hm := Lib.hid hm
  go_enter Tryz.func76, Tryz.ntmps76
  go_wp2_with fail
  go_loopw [8] (fun i wr => ∃ k : Nat, k ≤ m ∧ i = .int .i64 k ∧ Below w.heap.size w wr ∧ Hid (∀ y ∈ xs.take k, p y = false)) (fun i _ => m - (intOf i).toNat)
  case atStart => exact ⟨0, by omega, rfl, Below.refl _ _, fun y hy => by simp at hy⟩
  case round =>
    obtain ⟨k, hk, rfl, hw, hF⟩ := hrel
    by_cases hlt : k < m
    · obtain ⟨b1, o1, x, r, _, rfl, P1, hx, r1⟩ := (h0.out.below GDNode.good hw).get hm hlt
      have hc := hp.out k x r wr P1.out hw hx
      obtain ⟨u0, rfl, hxf⟩ := id hx
      obtain ⟨e_0, e_1, e_2, e_3⟩ := r1.cells4
      clear r1 hx hxf
      replace P1 := P1
      generalize hq : p x = q at hc
      replace hq := Lib.hid hq
      cases q with
      | true =>
        go_wp2_with (go_at_fn g; refine hc.mono ?_; rintro e w1 ⟨rfl, hb⟩)
        go_returns
        exact ⟨k, rfl, by
          have : xs.any p = true := List.any_eq_true.2 ⟨x, List.mem_of_getElem? P1.out, hq.out⟩
          rw [this]; simp, hw.trans (hb.mono hw.size)⟩
      | false =>
        go_wp2_with (go_at_fn g; refine hc.mono ?_; rintro e w1 ⟨rfl, hb⟩)
        go_roundw
        case rel => exact ⟨k + 1, by omega, by go_num, hw.trans (hb.mono hw.size), by
          show ∀ y ∈ xs.take (k + 1), p y = false
          rw [take_snoc' P1.out]
          intro y hy
          rcases List.mem_append.1 hy with h | h
          · exact hF.out y h
          · simp at h; subst h; exact hq.out⟩
        case measure => simp [intOf]; omega
    · obtain rfl : k = m := by omega
      go_wp2_with fail
      go_returns
      exact ⟨-1, rfl, by
        have hF := hF.out
        rw [take_full hm] at hF
        have : xs.any p = false := List.any_eq_false.2 fun y hy => by rw [hF y hy]; simp
        rw [this]; simp, hw⟩

theorem containsFuncDNode_c (xs : List GDNode) (p : GDNode → Bool) (g : Nat) (lb : Array Value) (lo : Nat) (u : Value) (w : World) (hu : Sl GDNode.R 4 lo w u xs)
    (hp : ∀ (i : Nat) x r W, xs[i]? = some x → Below w.heap.size w W → GDNode.R lo W r x → Calls Tryz.prog g (#[.agg r.toArray] ++ lb) W fun e w' => e = .returned (.bool (p x)) ∧ Below W.heap.size W w') (eg : ∀ args w, (callFunc g args).run Tryz.prog w = .ok (.enter g args) w) :
    Calls Tryz.prog 45 #[u, .func (.func g) #[] lb] w fun e w' => e = .returned (.bool (xs.any p)) ∧ Below w.heap.size w w' := by
  have hc := indexFuncDNode_c xs p g lb lo u w hu hp eg
  replace hc : Calls Tryz.prog 76 #[u, .func (.func g) #[] lb] w fun e w' => ∃ n : Int, e = .returned (.int .i64 n) ∧ decide (0 ≤ n) = xs.any p ∧ Below w.heap.size w w' := hc
  clear hp
  generalize xs.any p = q at *
  obtain ⟨ua, uc, rfl⟩ := hu.form
  clear hu
  go_enter Tryz.func45, Tryz.ntmps45
  go_wp2_with (go_at_call 76; refine hc.mono ?_; rintro e w1 ⟨n, rfl, hn, hb⟩)
  go_returns
  exact ⟨rfl, hb⟩

end Go.Proofs.YtnmmfcnkpcigoaaGreat

/- Where the value at a place ends: plain law, and the reference's walk. -/
namespace Go.Proofs.YtnmmfcnkpcigoaaGreat
open Go.RowKit
set_option linter.unusedVariables false
set_option linter.unusedSimpArgs false
attribute [local go_sem] Ext.cell

def kidsEnd (E : Nat → Int) : Int → List Int → Int
  | next, [] => next
  | next, k :: ks => if k ≠ next then -1 else if E k.toNat < 0 then -1 else kidsEnd E (E k.toNat) ks
def ends (l : List GDNode) : Nat → Nat → Int
  | 0, _ => -1
  | f + 1, i => match l[i]? with
    | none => -1
    | some n => kidsEnd (ends l f) (i + 1) n.kids

theorem kidsEnd_range {E : Nat → Int} {L : Int} (hE : ∀ k, 0 ≤ E k → (k : Int) + 1 ≤ E k ∧ E k ≤ L) : ∀ (ks : List Int) (nx : Int), 0 ≤ nx → nx ≤ L → 0 ≤ kidsEnd E nx ks → nx ≤ kidsEnd E nx ks ∧ kidsEnd E nx ks ≤ L
  | [], nx, h0, hL, h => ⟨Int.le_refl _, hL⟩
  | k :: ks, nx, h0, hL, h => by
    unfold kidsEnd at h ⊢
    split at h
    · omega
    · split at h
      · omega
      · rename_i h1 h2
        have e : k = nx := by omega
        have h3 := hE k.toNat (by omega)
        have h4 := kidsEnd_range hE ks (E k.toNat) (by omega) h3.2 h
        rw [if_neg h1, if_neg h2]
        omega
theorem ends_range (l : List GDNode) : ∀ (f i : Nat), 0 ≤ ends l f i → (i : Int) + 1 ≤ ends l f i ∧ ends l f i ≤ l.length
  | 0, i, h => by simp [ends] at h
  | f + 1, i, h => by
    unfold ends at h ⊢
    cases hi : l[i]? with
    | none => rw [hi] at h; simp at h
    | some n =>
      rw [hi] at h
      have hlt := (List.getElem?_eq_some_iff.1 hi).1
      exact kidsEnd_range (ends_range l f) n.kids (i + 1) (by omega) (by omega) h

end Go.Proofs.YtnmmfcnkpcigoaaGreat
