/- Parts of the proof, merged: Ends2, Ends3, Order. -/
import Derived.Shelf.Abstract
import Derived.Test.YtnmmfcnkpcigoaaGreatDe14
/- The reference's l07End. -/
namespace Go.Proofs.YtnmmfcnkpcigoaaGreat
open Go.RowKit
set_option linter.unusedVariables false
set_option linter.unusedSimpArgs false
attribute [local go_sem] Ext.cell

theorem ends_out {l : List GDNode} {i : Nat} (h : l.length ≤ i) : ∀ f, ends l f i = -1
  | 0 => rfl
  | f + 1 => by unfold ends; rw [List.getElem?_eq_none h]

set_option maxRecDepth 100000 in
set_option maxHeartbeats 2000000 in
theorem l07End_out (x : GData) (i : Nat) (r : List Value) (lo : Nat) (w : World) (hx : GData.R lo w r x) (hi : x.nodes.length ≤ i) :
    Calls Tryz.prog 35 #[.agg r.toArray, .int .i64 i] w fun e w' => e = .returned (.int .i64 (-1)) ∧ Below w.heap.size w w' := by
  obtain ⟨u0, rfl, -, a0⟩ := hx
  obtain ⟨pa, pc, rfl⟩ := a0.form
  have d1 : decide ((x.nodes.length : Int) ≤ i) = true := decide_eq_true (by omega)
  clear a0
  go_enter Tryz.func35, Tryz.ntmps35
  go_wp2
  go_returns
  exact ⟨rfl, by go_grown⟩

end Go.Proofs.YtnmmfcnkpcigoaaGreat

/- The reference's l07End, in range. -/
namespace Go.Proofs.YtnmmfcnkpcigoaaGreat
open Go.RowKit
set_option linter.unusedVariables false
set_option linter.unusedSimpArgs false
attribute [local go_sem] Ext.cell

set_option maxRecDepth 100000 in
set_option maxHeartbeats 4000000 in
theorem l07End_c (x : GData) (hL : x.nodes.length ≤ 1152921504606846976) : ∀ (f i : Nat) (r : List Value) (lo : Nat) (w : World), GData.R lo w r x → x.nodes.length < i + f →
    Calls Tryz.prog 35 #[.agg r.toArray, .int .i64 i] w fun e w' => e = .returned (.int .i64 (ends x.nodes f i)) ∧ Below w.heap.size w w'
  | 0, i, r, lo, w, hx, hf => by rw [ends_out (by omega)]; exact l07End_out x i r lo w hx (by omega)
  | f + 1, i, r, lo, w, hx, hf => by
    have ih := l07End_c x hL f
    have Hx := hx
    obtain ⟨u0, rfl, -, a0⟩ := hx
    obtain ⟨pa, pc, rfl⟩ := a0.form
    by_cases hlt : i < x.nodes.length
    · have d1 : decide ((x.nodes.length : Int) ≤ i) = false := decide_eq_false (by omega)
      have d1' : decide (x.nodes.length ≤ i) = false := decide_eq_false (by omega)
      obtain ⟨pa', pc', he, -, -, h0⟩ := a0
      obtain ⟨rfl, rfl⟩ : pa' = pa ∧ pc' = pc := by injection he with a b c; exact ⟨a.symm, c.symm⟩
      obtain ⟨b1, o1, n, s1, _, rfl, P1, q1, r1⟩ := h0.get (Lib.hid rfl) hlt
      obtain ⟨kv, rfl, -, k0⟩ := q1
      obtain ⟨ka, kc, rfl, kl, km, k0⟩ := k0
      have hends : ends x.nodes (f + 1) i = kidsEnd (ends x.nodes f) (i + 1) n.kids := by conv => lhs; unfold ends; rw [P1.out]
      rw [hends]
      have R1 : w.cell? ⟨b1, o1 + i * 4 + 3, none⟩ = some (.slice ka n.kids.length kc) := by simpa using r1 3 _ rfl
      obtain ⟨m, hm⟩ : ∃ m, m = n.kids.length := ⟨_, rfl⟩
      rw [← hm] at kl R1
      have X1 := Lib.hid hm
      clear hm hends r1 h0
      replace ih := Lib.hid ih
      replace k0 := Lib.hid k0
      go_enter Tryz.func35, Tryz.ntmps35
      go_upto_region 1 with fail
      have B : RowAt (w.alloc (.cells #[.slice (some ⟨b1, o1, none⟩) x.nodes.length pc'] 34)) (w.heap.size) 0 [.slice (some ⟨b1, o1, none⟩) x.nodes.length pc'] := RowAt.box w #[.slice (some ⟨b1, o1, none⟩) x.nodes.length pc'] 34
      have hw : Below w.heap.size w (w.alloc (.cells #[.slice (some ⟨b1, o1, none⟩) x.nodes.length pc'] 34)) := by go_grown
      generalize (w.alloc (.cells #[.slice (some ⟨b1, o1, none⟩) x.nodes.length pc'] 34)) = w0 at *
      replace R1 := cell_below hw R1
      have hb0 := B.box1
      go_wp2_with fail
      go_loopw [5, 22] (fun nx ii wr => ∃ (j : Nat) (z : Nat), j ≤ m ∧ i + 1 ≤ z ∧ z ≤ x.nodes.length ∧ nx = .int .i64 z ∧ ii = .int .i64 j ∧ Hid (kidsEnd (ends x.nodes f) (i + 1) n.kids = kidsEnd (ends x.nodes f) z (n.kids.drop j)) ∧ Below w.heap.size w wr ∧ RowAt wr w.heap.size 0 [.slice (some ⟨b1, o1, none⟩) x.nodes.length pc'] ∧ w.heap.size < wr.heap.size) (fun _ ii _ => m - (intOf ii).toNat)
      case atStart => exact ⟨0, i + 1, by omega, by omega, by omega, by simp, rfl, by simp [Hid], hw, B, World.block_lt_of_cell? _ _ hb0⟩
      case round =>
        clear hb0 R1 B hw
        obtain ⟨j, z, hj, hz1, hz2, rfl, rfl, hK, hw, B, hs⟩ := hrel
        have hb0 := B.box1
        by_cases hjm : j < m
        · obtain ⟨b2, o2, k, s2, _, rfl, P2, ⟨rfl, hk64⟩, r2⟩ := ((k0.out.below IntR.good hw).get X1 hjm)
          have e0 : wr.cell? ⟨b2, o2 + j, none⟩ = some (.int .i64 k) := by simpa using r2 0 _ rfl
          have hdrop : n.kids.drop j = k :: n.kids.drop (j + 1) := by
            obtain ⟨hjl, he⟩ := List.getElem?_eq_some_iff.1 P2.out
            rw [List.drop_eq_getElem_cons hjl, he]
          rw [hdrop] at hK
          clear r2 hdrop
          by_cases hkz : k = z
          · subst hkz
            have hK1 : kidsEnd (ends x.nodes f) (z : Int) (((z : Nat) : Int) :: n.kids.drop (j + 1)) = (if ends x.nodes f z < 0 then -1 else kidsEnd (ends x.nodes f) (ends x.nodes f z) (n.kids.drop (j + 1))) := by
              conv => lhs; unfold kidsEnd
              simp
            rw [Hid, hK1] at hK
            replace hK := Lib.hid hK
            clear hK1
            have c1 := fun W hW => ih.out z [.slice (some ⟨b1, o1, none⟩) x.nodes.length pc'] lo W hW (by omega)
            have hr := ends_range x.nodes f z
            generalize ends x.nodes f z = e at *
            replace hr := Lib.hid hr
            have hd : ((z : Int) != z) = false := by simp
            go_wp2_with fail
            refine (c1 _ (GData.good.below Hx hw)).mono ?_
            rintro e' w2 ⟨rfl, hb⟩
            have hw2 := hw.trans (hb.mono hw.size)
            have B2 := B.below hb
            have hs2 := Nat.lt_of_lt_of_le hs hb.size
            clear hb hb0 e0 B hw hs
            by_cases he : e < 0
            · have d2 : decide (e < 0) = true := decide_eq_true he
              rw [Hid, if_pos he] at hK
              replace hK := Lib.hid hK
              clear hr c1 he
              go_wp2
              go_returns
              exact ⟨by rw [hK.out]; rfl, hw2⟩
            · have d2 : decide (e < 0) = false := decide_eq_false he
              rw [Hid, if_neg he] at hK
              have hr' := hr.out (by omega)
              obtain ⟨z', rfl⟩ : ∃ z' : Nat, e = z' := ⟨e.toNat, by omega⟩
              replace hK := Lib.hid hK
              clear hr c1 he
              go_wp2
              go_roundw
              case rel => exact ⟨j + 1, z', by omega, by omega, by omega, rfl, by go_num, hK, hw2, B2, hs2⟩
              case measure => simp [intOf]; omega
          · have hK1 : kidsEnd (ends x.nodes f) (z : Int) (k :: n.kids.drop (j + 1)) = -1 := by
              conv => lhs; unfold kidsEnd
              rw [if_pos hkz]
            rw [Hid, hK1] at hK
            replace hK := Lib.hid hK
            clear hK1
            have hd : (k != (z : Int)) = true := by simpa using hkz
            clear hkz
            go_wp2
            go_returns
            exact ⟨by rw [hK.out]; rfl, hw⟩
        · obtain rfl : j = m := by omega
          rw [Hid, X1.out, List.drop_length] at hK
          replace hK := Lib.hid (hK.trans (by unfold kidsEnd; rfl : _ = (z : Int)))
          go_wp2
          go_returns
          exact ⟨by rw [hK.out]; rfl, hw⟩
    · rw [ends_out (by omega)]; exact l07End_out x i _ lo w Hx (by omega)

end Go.Proofs.YtnmmfcnkpcigoaaGreat

/- The program's test that nodes are a tree in preorder: its walk, against the plain law. -/
namespace Go.Proofs.YtnmmfcnkpcigoaaGreat
open Go.RowKit
set_option linter.unusedVariables false
set_option linter.unusedSimpArgs false
attribute [local go_sem] Ext.cell

/-- Where the value at a place ends, over whatever gives the children. -/
def endsK (n : Nat) (K : Nat → List Int) : Nat → Nat → Int
  | 0, _ => -1
  | f + 1, i => if n ≤ i then -1 else kidsEnd (endsK n K f) (i + 1) (K i)
theorem endsK_out {n : Nat} {K : Nat → List Int} {i : Nat} (h : n ≤ i) : ∀ f, endsK n K f i = -1
  | 0 => rfl
  | f + 1 => by unfold endsK; rw [if_pos h]
theorem endsK_range (n : Nat) (K : Nat → List Int) : ∀ (f i : Nat), 0 ≤ endsK n K f i → (i : Int) + 1 ≤ endsK n K f i ∧ endsK n K f i ≤ n
  | 0, i, h => by simp [endsK] at h
  | f + 1, i, h => by
    unfold endsK at h ⊢
    split at h
    · simp at h
    · rename_i hi
      rw [if_neg hi]
      exact kidsEnd_range (endsK_range n K f) (K i) (i + 1) (by omega) (by omega) h
theorem kidsEnd_congr {E F : Nat → Int} (h : ∀ k, E k = F k) (nx : Int) (ks : List Int) : kidsEnd E nx ks = kidsEnd F nx ks := by
  rw [show E = F from funext h]
theorem ends_eq (l : List GDNode) : ∀ f i, ends l f i = endsK l.length (fun i => (l[i]?.map (·.kids)).getD []) f i
  | 0, _ => rfl
  | f + 1, i => by
    unfold ends endsK
    cases hi : l[i]? with
    | none => rw [if_pos (by simpa using hi)]
    | some x =>
      rw [if_neg (by have := (List.getElem?_eq_some_iff.1 hi).1; omega)]
      show kidsEnd (ends l f) (i + 1) x.kids = _
      rw [kidsEnd_congr (ends_eq l f)]
      simp [hi]

/-- What is asked of the function that gives the children: at each place it hands back a slice that lies there already. -/
def KidsGive (n : Nat) (K : Nat → List Int) (g : Nat) (lb : Array Value) (lo : Nat) (w : World) : Prop :=
  ∀ i : Nat, i < n → ∃ v, Sl IntR 1 lo w v (K i) ∧ ∀ W, Below w.heap.size w W → Calls Tryz.prog g (#[.int .i64 i] ++ lb) W fun e w' => e = .returned v ∧ Below W.heap.size W w'

/-- The four boxes of the walk: the next place, how many, the children's function, the walk itself. -/
structure Four (w0 : World) (n g : Nat) (lb : Array Value) (b1 b2 b3 b4 : Nat) (z : Nat) (w : World) : Prop where
  below : Below w0.heap.size w0 w
  up : w0.heap.size ≤ b1
  le : z ≤ n
  c1 : w.cell? ⟨b1, 0, none⟩ = some (.int .i64 z)
  f1 : w.frozen? ⟨b1, 0, none⟩ = false
  c2 : w.cell? ⟨b2, 0, none⟩ = some (.int .i64 n)
  c3 : w.cell? ⟨b3, 0, none⟩ = some (.func (.func g) #[] lb)
  c4 : w.cell? ⟨b4, 0, none⟩ = some (.func (.func 75) #[] #[.pointer (some ⟨b1, 0, none⟩), .pointer (some ⟨b2, 0, none⟩), .pointer (some ⟨b3, 0, none⟩), .pointer (some ⟨b4, 0, none⟩)])

theorem Four.more {w0 : World} {n g : Nat} {lb : Array Value} {b1 b2 b3 b4 z : Nat} {w w' : World} (h : Four w0 n g lb b1 b2 b3 b4 z w) (hb : Below w.heap.size w w') : Four w0 n g lb b1 b2 b3 b4 z w' :=
  ⟨h.below.trans (hb.mono h.below.size), h.up, h.le, cell_below hb h.c1, by rw [hb.frozen (p := ⟨b1, 0, none⟩) (World.block_lt_of_cell? w _ h.c1), h.f1], cell_below hb h.c2, cell_below hb h.c3, cell_below hb h.c4⟩

theorem cell_setCell_block (w : World) (g o b o' : Nat) (u : Value) (h : b ≠ g) : (w.setCell ⟨g, o, none⟩ u).cell? ⟨b, o', none⟩ = w.cell? ⟨b, o', none⟩ :=
  World.cell?_of_block (w := w) (a := ⟨b, o', none⟩) (Below.heap_setCell w ⟨g, o, none⟩ u b h)

theorem Four.next {w0 : World} {n g : Nat} {lb : Array Value} {b1 b2 b3 b4 z : Nat} {w : World} (h : Four w0 n g lb b1 b2 b3 b4 z w) (h2 : b2 ≠ b1) (h3 : b3 ≠ b1) (h4 : b4 ≠ b1) (z' : Nat) (hz : z' ≤ n) : Four w0 n g lb b1 b2 b3 b4 z' (w.setCell ⟨b1, 0, none⟩ (.int .i64 z')) :=
  ⟨h.below.trans (Below.setCell (Below.refl _ w) (p := ⟨b1, 0, none⟩) h.up _), h.up, hz, cell_setCell_eq _ _ _ _ h.c1, by rw [frozen_setCell, h.f1], by rw [cell_setCell_block _ _ _ _ _ _ h2, h.c2], by rw [cell_setCell_block _ _ _ _ _ _ h3, h.c3], by rw [cell_setCell_block _ _ _ _ _ _ h4, h.c4]⟩

def WalkPost (n : Nat) (K : Nat → List Int) (g : Nat) (lb : Array Value) (w0 : World) (b1 b2 b3 b4 f z : Nat) (i : Int) (e : Ending) (w' : World) : Prop :=
  ∃ z' : Nat, e = .returned (.bool (decide (i = z ∧ 0 ≤ endsK n K f z))) ∧ Four w0 n g lb b1 b2 b3 b4 z' w' ∧ (i = z → 0 ≤ endsK n K f z → (z' : Int) = endsK n K f z)

set_option maxRecDepth 100000 in
set_option maxHeartbeats 4000000 in
theorem walk_c (n : Nat) (hn : n ≤ 1152921504606846976) (K : Nat → List Int) (g : Nat) (lb : Array Value) (lo : Nat) (w0 : World) (hk : KidsGive n K g lb lo w0) (eg : ∀ args w, (callFunc g args).run Tryz.prog w = .ok (.enter g args) w)
    (b1 b2 b3 b4 : Nat) (h2 : b2 ≠ b1) (h3 : b3 ≠ b1) (h4 : b4 ≠ b1) : ∀ (f z : Nat) (i : Int) (w : World), I64 i → n < z + f → Four w0 n g lb b1 b2 b3 b4 z w →
    Calls Tryz.prog 75 #[.int .i64 i, .pointer (some ⟨b1, 0, none⟩), .pointer (some ⟨b2, 0, none⟩), .pointer (some ⟨b3, 0, none⟩), .pointer (some ⟨b4, 0, none⟩)] w (WalkPost n K g lb w0 b1 b2 b3 b4 f z i)
  | 0, z, i, w, hi, hf, hF => absurd hF.le (by omega)
  | f + 1, z, i, w, hi, hf, hF => by
    have ih := walk_c n hn K g lb lo w0 hk eg b1 b2 b3 b4 h2 h3 h4 f
    replace ih := Lib.hid ih
    replace hk := Lib.hid hk
    obtain ⟨hi0, hi1⟩ := hi
    have e1 := hF.c1
    have e2 := hF.c2
    have e5 := hF.f1
    by_cases hiz : i = z
    · subst hiz
      have d1 : ((z : Int) != (z : Int)) = false := by simp
      by_cases hzn : z < n
      · have d2 : decide ((n : Int) ≤ (z : Int)) = false := decide_eq_false (by omega)
        have d2' : decide (n ≤ z) = false := decide_eq_false (by omega)
        obtain ⟨v, hv, hc⟩ := hk.out z hzn
        go_enter Tryz.func75, Tryz.ntmps75
        go_upto_region 4 with fail
        generalize hW : w.setCell ⟨b1, 0, none⟩ (.int .i64 ((z : Int) + 1)) = W
        have F1 : Four w0 n g lb b1 b2 b3 b4 (z + 1) W := by rw [← hW]; exact hF.next h2 h3 h4 (z + 1) hzn
        clear hW e1 e2 e5 hF
        have e3 := F1.c3
        replace hc := hc W F1.below
        have hends : endsK n K (f + 1) z = kidsEnd (endsK n K f) (z + 1) (K z) := by conv => lhs; unfold endsK; rw [if_neg (by omega)]
        obtain ⟨ka, kc, rfl, kl, km, k0⟩ := hv
        obtain ⟨m, hm⟩ : ∃ m, m = (K z).length := ⟨_, rfl⟩
        rw [← hm] at kl hc
        replace hm := Lib.hid hm
        replace hends := Lib.hid hends
        replace k0 := Lib.hid k0
        go_wp2_with (go_at_fn g; refine hc.mono ?_; rintro e w1 ⟨rfl, hb⟩)
        have F2 := F1.more hb
        clear e3 F1 hb hc
        go_loopw [23] (fun ii wr => ∃ (j : Nat) (z' : Nat), j ≤ m ∧ z + 1 ≤ z' ∧ ii = .int .i64 j ∧ Hid (kidsEnd (endsK n K f) (z + 1) (K z) = kidsEnd (endsK n K f) z' ((K z).drop j)) ∧ Four w0 n g lb b1 b2 b3 b4 z' wr) (fun ii _ => m - (intOf ii).toNat)
        case atStart => exact ⟨0, z + 1, by omega, by omega, by simp, by simp [Hid], F2⟩
        case round =>
          clear F2
          obtain ⟨j, z', hj, hz1, rfl, hK, F2⟩ := hrel
          by_cases hjm : j < m
          · obtain ⟨b5, o5, k, s5, _, rfl, P5, ⟨rfl, hk64⟩, r5⟩ := ((k0.out.below IntR.good F2.below).get hm hjm)
            have e0 : wr.cell? ⟨b5, o5 + j, none⟩ = some (.int .i64 k) := by simpa using r5 0 _ rfl
            have e4 := F2.c4
            have hdrop : (K z).drop j = k :: (K z).drop (j + 1) := by
              obtain ⟨hjl, he⟩ := List.getElem?_eq_some_iff.1 P5.out
              rw [List.drop_eq_getElem_cons hjl, he]
            rw [hdrop] at hK
            clear r5 hdrop
            have hcall := ih.out z' k wr hk64 (by omega) F2
            generalize hd : decide (k = (z' : Int) ∧ 0 ≤ endsK n K f z') = d
            replace hd := Lib.hid hd
            have hcall : Calls Tryz.prog 75 #[.int .i64 k, .pointer (some ⟨b1, 0, none⟩), .pointer (some ⟨b2, 0, none⟩), .pointer (some ⟨b3, 0, none⟩), .pointer (some ⟨b4, 0, none⟩)] wr fun e w' => ∃ z'' : Nat, e = .returned (.bool d) ∧ Four w0 n g lb b1 b2 b3 b4 z'' w' ∧ Hid (k = z' → 0 ≤ endsK n K f z' → (z'' : Int) = endsK n K f z') :=
              hcall.mono fun e w' ⟨z'', h1, h2, h3⟩ => ⟨z'', by rw [← hd.out]; exact h1, h2, h3⟩
            cases d with
            | true =>
              go_wp2_with (go_at_call 75; refine hcall.mono ?_; rintro e w1 ⟨z'', rfl, F3, hz''⟩)
              go_roundw
              case rel =>
                have hd := of_decide_eq_true hd.out
                have hz3 := hz''.out hd.1 hd.2
                have hr := (endsK_range n K f z' hd.2).1
                refine ⟨j + 1, z'', by omega, by omega, by go_num, ?_, F3⟩
                show _ = _
                rw [hK.out, hz3]
                conv => lhs; unfold kidsEnd
                rw [if_neg (by omega), hd.1, Int.toNat_natCast, if_neg (by omega)]
              case measure => simp [intOf]; omega
            | false =>
              go_wp2_with (go_at_call 75; refine hcall.mono ?_; rintro e w1 ⟨z'', rfl, F3, hz''⟩)
              go_returns
              have hd := of_decide_eq_false hd.out
              have hneg : endsK n K (f + 1) z = -1 := by
                rw [hends.out, hK.out]
                conv => lhs; unfold kidsEnd
                by_cases hkz : k = z'
                · rw [if_neg (by omega), hkz, Int.toNat_natCast, if_pos (by omega)]
                · rw [if_pos hkz]
              exact ⟨z'', by rw [hneg]; simp, F3, fun _ h => absurd h (by rw [hneg]; omega)⟩
          · obtain rfl : j = m := by omega
            go_wp2
            go_returns
            have hpos : endsK n K (f + 1) z = z' := by
              rw [hends.out, hK.out, hm.out, List.drop_length]
              unfold kidsEnd; rfl
            exact ⟨z', by rw [hpos]; simp, F2, fun _ _ => hpos.symm⟩
      · have d2 : decide ((n : Int) ≤ (z : Int)) = true := decide_eq_true (by omega)
        have d2' : decide (n ≤ z) = true := decide_eq_true (by omega)
        go_enter Tryz.func75, Tryz.ntmps75
        go_wp2_with fail
        go_returns
        refine ⟨z, ?_, hF, fun _ h => ?_⟩
        · rw [endsK_out (by omega)]; simp
        · rw [endsK_out (by omega)] at h; omega
    · have d1 : (i != (z : Int)) = true := by simpa using hiz
      go_enter Tryz.func75, Tryz.ntmps75
      go_wp2_with fail
      go_returns
      exact ⟨z, by simp [hiz], hF, fun h => absurd h hiz⟩

end Go.Proofs.YtnmmfcnkpcigoaaGreat
