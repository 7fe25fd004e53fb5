/- Parts of the proof, merged: Ends, Ends2, Ends3, Order, Order2, DataOk, DataOk2. -/
import Derived.Shelf.Abstract
import Derived.Laws.EntriesVeiled
import Derived.Test.YtaimekaagmcmnaaGreatNe4
/- Where the value at a place ends: plain law, and the reference's walk. -/
namespace Go.Proofs.YtaimekaagmcmnaaGreat
open Go.RowKit
set_option linter.unusedVariables false
set_option linter.unusedSimpArgs false
attribute [local go_sem] Ext.cell

def kidsEnd (E : Nat → Int) : Int → List Int → Int
  | next, [] => next
  | next, k :: ks => if k ≠ next then -1 else if E k.toNat < 0 then -1 else kidsEnd E (E k.toNat) ks
def ends (l : List GDNode) : Nat → Nat → Int
  | 0, _ => -1
  | f + 1, i => match l[i]? with
    | none => -1
    | some n => kidsEnd (ends l f) (i + 1) n.kids

theorem kidsEnd_range {E : Nat → Int} {L : Int} (hE : ∀ k, 0 ≤ E k → (k : Int) + 1 ≤ E k ∧ E k ≤ L) : ∀ (ks : List Int) (nx : Int), 0 ≤ nx → nx ≤ L → 0 ≤ kidsEnd E nx ks → nx ≤ kidsEnd E nx ks ∧ kidsEnd E nx ks ≤ L
  | [], nx, h0, hL, h => ⟨Int.le_refl _, hL⟩
  | k :: ks, nx, h0, hL, h => by
    unfold kidsEnd at h ⊢
    split at h
    · omega
    · split at h
      · omega
      · rename_i h1 h2
        have e : k = nx := by omega
        have h3 := hE k.toNat (by omega)
        have h4 := kidsEnd_range hE ks (E k.toNat) (by omega) h3.2 h
        rw [if_neg h1, if_neg h2]
        omega
theorem ends_range (l : List GDNode) : ∀ (f i : Nat), 0 ≤ ends l f i → (i : Int) + 1 ≤ ends l f i ∧ ends l f i ≤ l.length
  | 0, i, h => by simp [ends] at h
  | f + 1, i, h => by
    unfold ends at h ⊢
    cases hi : l[i]? with
    | none => rw [hi] at h; simp at h
    | some n =>
      rw [hi] at h
      have hlt := (List.getElem?_eq_some_iff.1 hi).1
      exact kidsEnd_range (ends_range l f) n.kids (i + 1) (by omega) (by omega) h

end Go.Proofs.YtaimekaagmcmnaaGreat

/- The reference's l07End. -/
namespace Go.Proofs.YtaimekaagmcmnaaGreat
open Go.RowKit
set_option linter.unusedVariables false
set_option linter.unusedSimpArgs false
attribute [local go_sem] Ext.cell

theorem ends_out {l : List GDNode} {i : Nat} (h : l.length ≤ i) : ∀ f, ends l f i = -1
  | 0 => rfl
  | f + 1 => by unfold ends; rw [List.getElem?_eq_none h]

end Go.Proofs.YtaimekaagmcmnaaGreat

/- The reference's l07End, in range. -/
namespace Go.Proofs.YtaimekaagmcmnaaGreat
open Go.RowKit
set_option linter.unusedVariables false
set_option linter.unusedSimpArgs false
attribute [local go_sem] Ext.cell

end Go.Proofs.YtaimekaagmcmnaaGreat

/- The program's test that nodes are a tree in preorder: its walk, against the plain law. -/
namespace Go.Proofs.YtaimekaagmcmnaaGreat
open Go.RowKit
set_option linter.unusedVariables false
set_option linter.unusedSimpArgs false
attribute [local go_sem] Ext.cell

def endsK (n : Nat) (K : Nat → List Int) : Nat → Nat → Int
  | 0, _ => -1
  | f + 1, i => if n ≤ i then -1 else kidsEnd (endsK n K f) (i + 1) (K i)
theorem endsK_out {n : Nat} {K : Nat → List Int} {i : Nat} (h : n ≤ i) : ∀ f, endsK n K f i = -1
  | 0 => rfl
  | f + 1 => by unfold endsK; rw [if_pos h]
theorem endsK_range (n : Nat) (K : Nat → List Int) : ∀ (f i : Nat), 0 ≤ endsK n K f i → (i : Int) + 1 ≤ endsK n K f i ∧ endsK n K f i ≤ n
  | 0, i, h => by simp [endsK] at h
  | f + 1, i, h => by
    unfold endsK at h ⊢
    split at h
    · simp at h
    · rename_i hi
      rw [if_neg hi]
      exact kidsEnd_range (endsK_range n K f) (K i) (i + 1) (by omega) (by omega) h
theorem kidsEnd_congr {E F : Nat → Int} (h : ∀ k, E k = F k) (nx : Int) (ks : List Int) : kidsEnd E nx ks = kidsEnd F nx ks := by
  rw [show E = F from funext h]
theorem ends_eq (l : List GDNode) : ∀ f i, ends l f i = endsK l.length (fun i => (l[i]?.map (·.kids)).getD []) f i
  | 0, _ => rfl
  | f + 1, i => by
    unfold ends endsK
    cases hi : l[i]? with
    | none => rw [if_pos (by simpa using hi)]
    | some x =>
      rw [if_neg (by have := (List.getElem?_eq_some_iff.1 hi).1; omega)]
      show kidsEnd (ends l f) (i + 1) x.kids = _
      rw [kidsEnd_congr (ends_eq l f)]
      simp [hi]

def KidsGive (n : Nat) (K : Nat → List Int) (g : Nat) (lb : Array Value) (lo : Nat) (w : World) : Prop :=
  ∀ i : Nat, i < n → ∃ v, Sl IntR 1 lo w v (K i) ∧ ∀ W, Below w.heap.size w W → Calls Tryz.prog g (#[.int .i64 i] ++ lb) W fun e w' => e = .returned v ∧ Below W.heap.size W w'

structure Four (w0 : World) (n g : Nat) (lb : Array Value) (b1 b2 b3 b4 : Nat) (z : Nat) (w : World) : Prop where
  below : Below w0.heap.size w0 w
  up : w0.heap.size ≤ b1
  le : z ≤ n
  c1 : w.cell? ⟨b1, 0, none⟩ = some (.int .i64 z)
  f1 : w.frozen? ⟨b1, 0, none⟩ = false
  c2 : w.cell? ⟨b2, 0, none⟩ = some (.int .i64 n)
  c3 : w.cell? ⟨b3, 0, none⟩ = some (.func (.func g) #[] lb)
  c4 : w.cell? ⟨b4, 0, none⟩ = some (.func (.func 106) #[] #[.pointer (some ⟨b1, 0, none⟩), .pointer (some ⟨b2, 0, none⟩), .pointer (some ⟨b3, 0, none⟩), .pointer (some ⟨b4, 0, none⟩)])

theorem Four.more {w0 : World} {n g : Nat} {lb : Array Value} {b1 b2 b3 b4 z : Nat} {w w' : World} (h : Four w0 n g lb b1 b2 b3 b4 z w) (hb : Below w.heap.size w w') : Four w0 n g lb b1 b2 b3 b4 z w' :=
  ⟨h.below.trans (hb.mono h.below.size), h.up, h.le, cell_below hb h.c1, by rw [hb.frozen (p := ⟨b1, 0, none⟩) (World.block_lt_of_cell? w _ h.c1), h.f1], cell_below hb h.c2, cell_below hb h.c3, cell_below hb h.c4⟩

theorem cell_setCell_block (w : World) (g o b o' : Nat) (u : Value) (h : b ≠ g) : (w.setCell ⟨g, o, none⟩ u).cell? ⟨b, o', none⟩ = w.cell? ⟨b, o', none⟩ :=
  World.cell?_of_block (w := w) (a := ⟨b, o', none⟩) (Below.heap_setCell w ⟨g, o, none⟩ u b h)

theorem Four.next {w0 : World} {n g : Nat} {lb : Array Value} {b1 b2 b3 b4 z : Nat} {w : World} (h : Four w0 n g lb b1 b2 b3 b4 z w) (h2 : b2 ≠ b1) (h3 : b3 ≠ b1) (h4 : b4 ≠ b1) (z' : Nat) (hz : z' ≤ n) : Four w0 n g lb b1 b2 b3 b4 z' (w.setCell ⟨b1, 0, none⟩ (.int .i64 z')) :=
  ⟨h.below.trans (Below.setCell (Below.refl _ w) (p := ⟨b1, 0, none⟩) h.up _), h.up, hz, cell_setCell_eq _ _ _ _ h.c1, by rw [frozen_setCell, h.f1], by rw [cell_setCell_block _ _ _ _ _ _ h2, h.c2], by rw [cell_setCell_block _ _ _ _ _ _ h3, h.c3], by rw [cell_setCell_block _ _ _ _ _ _ h4, h.c4]⟩

def WalkPost (n : Nat) (K : Nat → List Int) (g : Nat) (lb : Array Value) (w0 : World) (b1 b2 b3 b4 f z : Nat) (i : Int) (e : Ending) (w' : World) : Prop :=
  ∃ z' : Nat, e = .returned (.bool (decide (i = z ∧ 0 ≤ endsK n K f z))) ∧ Four w0 n g lb b1 b2 b3 b4 z' w' ∧ (i = z → 0 ≤ endsK n K f z → (z' : Int) = endsK n K f z)

set_option maxRecDepth 100000 in
set_option maxHeartbeats 4000000 in
theorem walk_c (n : Nat) (hn : n ≤ 1152921504606846976) (K : Nat → List Int) (g : Nat) (lb : Array Value) (lo : Nat) (w0 : World) (hk : KidsGive n K g lb lo w0) (eg : ∀ args w, (callFunc g args).run Tryz.prog w = .ok (.enter g args) w)
    (b1 b2 b3 b4 : Nat) (h2 : b2 ≠ b1) (h3 : b3 ≠ b1) (h4 : b4 ≠ b1) : ∀ (f z : Nat) (i : Int) (w : World), I64 i → n < z + f → Four w0 n g lb b1 b2 b3 b4 z w →
    Calls Tryz.prog 106 #[.int .i64 i, .pointer (some ⟨b1, 0, none⟩), .pointer (some ⟨b2, 0, none⟩), .pointer (some ⟨b3, 0, none⟩), .pointer (some ⟨b4, 0, none⟩)] w (WalkPost n K g lb w0 b1 b2 b3 b4 f z i)
  | 0, z, i, w, hi, hf, hF => absurd hF.le (by omega)
  | f + 1, z, i, w, hi, hf, hF => by
    have ih := walk_c n hn K g lb lo w0 hk eg b1 b2 b3 b4 h2 h3 h4 f
    replace ih := Lib.hid ih
    replace hk := Lib.hid hk
    obtain ⟨hi0, hi1⟩ := hi
    have e1 := hF.c1
    have e2 := hF.c2
    have e5 := hF.f1
    by_cases hiz : i = z
    · subst hiz
      have d1 : ((z : Int) != (z : Int)) = false := by simp
      by_cases hzn : z < n
      · have d2 : decide ((n : Int) ≤ (z : Int)) = false := decide_eq_false (by omega)
        have d2' : decide (n ≤ z) = false := decide_eq_false (by omega)
        obtain ⟨v, hv, hc⟩ := hk.out z hzn
        go_enter Tryz.func106, Tryz.ntmps106
        go_upto_region 4 with fail
        generalize hW : w.setCell ⟨b1, 0, none⟩ (.int .i64 ((z : Int) + 1)) = W
        have F1 : Four w0 n g lb b1 b2 b3 b4 (z + 1) W := by rw [← hW]; exact hF.next h2 h3 h4 (z + 1) hzn
        clear hW e1 e2 e5 hF
        have e3 := F1.c3
        replace hc := hc W F1.below
        have hends : endsK n K (f + 1) z = kidsEnd (endsK n K f) (z + 1) (K z) := by conv => lhs; unfold endsK; rw [if_neg (by omega)]
        obtain ⟨ka, kc, rfl, kl, km, k0⟩ := hv
        obtain ⟨m, hm⟩ : ∃ m, m = (K z).length := ⟨_, rfl⟩
        rw [← hm] at kl hc
        replace hm := Lib.hid hm
        replace hends := Lib.hid hends
        replace k0 := Lib.hid k0
        go_wp2_with (go_at_fn g; refine hc.mono ?_; rintro e w1 ⟨rfl, hb⟩)
        have F2 := F1.more hb
        clear e3 F1 hb hc
        go_loopw [23] (fun ii wr => ∃ (j : Nat) (z' : Nat), j ≤ m ∧ z + 1 ≤ z' ∧ ii = .int .i64 j ∧ Hid (kidsEnd (endsK n K f) (z + 1) (K z) = kidsEnd (endsK n K f) z' ((K z).drop j)) ∧ Four w0 n g lb b1 b2 b3 b4 z' wr) (fun ii _ => m - (intOf ii).toNat)
        case atStart => exact ⟨0, z + 1, by omega, by omega, by simp, by simp [Hid], F2⟩
        case round =>
          clear F2
          obtain ⟨j, z', hj, hz1, rfl, hK, F2⟩ := hrel
          by_cases hjm : j < m
          · obtain ⟨b5, o5, k, s5, _, rfl, P5, ⟨rfl, hk64⟩, r5⟩ := ((k0.out.below IntR.good F2.below).get hm hjm)
            have e0 : wr.cell? ⟨b5, o5 + j, none⟩ = some (.int .i64 k) := by simpa using r5 0 _ rfl
            have e4 := F2.c4
            have hdrop : (K z).drop j = k :: (K z).drop (j + 1) := by
              obtain ⟨hjl, he⟩ := List.getElem?_eq_some_iff.1 P5.out
              rw [List.drop_eq_getElem_cons hjl, he]
            rw [hdrop] at hK
            clear r5 hdrop
            have hcall := ih.out z' k wr hk64 (by omega) F2
            generalize hd : decide (k = (z' : Int) ∧ 0 ≤ endsK n K f z') = d
            replace hd := Lib.hid hd
            have hcall : Calls Tryz.prog 106 #[.int .i64 k, .pointer (some ⟨b1, 0, none⟩), .pointer (some ⟨b2, 0, none⟩), .pointer (some ⟨b3, 0, none⟩), .pointer (some ⟨b4, 0, none⟩)] wr fun e w' => ∃ z'' : Nat, e = .returned (.bool d) ∧ Four w0 n g lb b1 b2 b3 b4 z'' w' ∧ Hid (k = z' → 0 ≤ endsK n K f z' → (z'' : Int) = endsK n K f z') :=
              hcall.mono fun e w' ⟨z'', h1, h2, h3⟩ => ⟨z'', by rw [← hd.out]; exact h1, h2, h3⟩
            cases d with
            | true =>
              go_wp2_with (go_at_call 106; refine hcall.mono ?_; rintro e w1 ⟨z'', rfl, F3, hz''⟩)
              go_roundw
              case rel =>
                have hd := of_decide_eq_true hd.out
                have hz3 := hz''.out hd.1 hd.2
                have hr := (endsK_range n K f z' hd.2).1
                refine ⟨j + 1, z'', by omega, by omega, by go_num, ?_, F3⟩
                show _ = _
                rw [hK.out, hz3]
                conv => lhs; unfold kidsEnd
                rw [if_neg (by omega), hd.1, Int.toNat_natCast, if_neg (by omega)]
              case measure => simp [intOf]; omega
            | false =>
              go_wp2_with (go_at_call 106; refine hcall.mono ?_; rintro e w1 ⟨z'', rfl, F3, hz''⟩)
              go_returns
              have hd := of_decide_eq_false hd.out
              have hneg : endsK n K (f + 1) z = -1 := by
                rw [hends.out, hK.out]
                conv => lhs; unfold kidsEnd
                by_cases hkz : k = z'
                · rw [if_neg (by omega), hkz, Int.toNat_natCast, if_pos (by omega)]
                · rw [if_pos hkz]
              exact ⟨z'', by rw [hneg]; simp, F3, fun _ h => absurd h (by rw [hneg]; omega)⟩
          · obtain rfl : j = m := by omega
            go_wp2
            go_returns
            have hpos : endsK n K (f + 1) z = z' := by
              rw [hends.out, hK.out, hm.out, List.drop_length]
              unfold kidsEnd; rfl
            exact ⟨z', by rw [hpos]; simp, F2, fun _ _ => hpos.symm⟩
      · have d2 : decide ((n : Int) ≤ (z : Int)) = true := decide_eq_true (by omega)
        have d2' : decide (n ≤ z) = true := decide_eq_true (by omega)
        go_enter Tryz.func106, Tryz.ntmps106
        go_wp2_with fail
        go_returns
        refine ⟨z, ?_, hF, fun _ h => ?_⟩
        · rw [endsK_out (by omega)]; simp
        · rw [endsK_out (by omega)] at h; omega
    · have d1 : (i != (z : Int)) = true := by simpa using hiz
      go_enter Tryz.func106, Tryz.ntmps106
      go_wp2_with fail
      go_returns
      exact ⟨z, by simp [hiz], hF, fun h => absurd h hiz⟩

end Go.Proofs.YtaimekaagmcmnaaGreat

/- The program's inOrder. -/
namespace Go.Proofs.YtaimekaagmcmnaaGreat
open Go.RowKit
set_option linter.unusedVariables false
set_option linter.unusedSimpArgs false
attribute [local go_sem] Ext.cell

set_option maxRecDepth 100000 in
set_option maxHeartbeats 4000000 in
theorem inOrder_c (n : Nat) (hn : n ≤ 1152921504606846976) (K : Nat → List Int) (g : Nat) (lb : Array Value) (lo : Nat) (w : World) (hk : KidsGive n K g lb lo w) (eg : ∀ args w, (callFunc g args).run Tryz.prog w = .ok (.enter g args) w) :
    Calls Tryz.prog 76 #[.int .i64 n, .func (.func g) #[] lb] w fun e w' => e = .returned (.bool (decide (endsK n K (n + 1) 0 = n))) ∧ Below w.heap.size w w' := by
  have hw0 := walk_c n hn K g lb lo w hk eg (w.heap.size + 1 + 1) w.heap.size (w.heap.size + 1) (w.heap.size + 1 + 1 + 1) (by omega) (by omega) (by omega) (n + 1) 0 0
  replace hw0 := Lib.hid hw0
  clear hk
  go_enter Tryz.func76, Tryz.ntmps76
  go_upto_region 4 with fail
  have hfz : ((((w.alloc (.cells #[.int .i64 n] 3)).alloc (.cells #[.func (.func g) #[] lb] 117)).alloc (.cells #[.int .i64 0] 3)).alloc (.cells #[.func (.func 106) #[] #[.pointer (some ⟨w.heap.size + 1 + 1, 0, none⟩), .pointer (some ⟨w.heap.size, 0, none⟩), .pointer (some ⟨w.heap.size + 1, 0, none⟩), .pointer (some ⟨w.heap.size + 1 + 1 + 1, 0, none⟩)]] 151)).frozen? ⟨w.heap.size + 1 + 1, 0, none⟩ = false := by go_simp
  have B1 : RowAt (w.alloc (.cells #[.int .i64 n] 3)) (w.heap.size) 0 [.int .i64 n] := RowAt.box w #[.int .i64 n] 3
  have B1 := B1.below (show Below (w.alloc (.cells #[.int .i64 n] 3)).heap.size (w.alloc (.cells #[.int .i64 n] 3)) ((w.alloc (.cells #[.int .i64 n] 3)).alloc (.cells #[.func (.func g) #[] lb] 117)) by go_grown)
  have B2 : RowAt ((w.alloc (.cells #[.int .i64 n] 3)).alloc (.cells #[.func (.func g) #[] lb] 117)) (w.heap.size + 1) 0 [.func (.func g) #[] lb] := by have h := RowAt.box (w.alloc (.cells #[.int .i64 n] 3)) #[.func (.func g) #[] lb] 117; simp only [World.size_alloc] at h; exact h
  have B1 := B1.below (show Below ((w.alloc (.cells #[.int .i64 n] 3)).alloc (.cells #[.func (.func g) #[] lb] 117)).heap.size ((w.alloc (.cells #[.int .i64 n] 3)).alloc (.cells #[.func (.func g) #[] lb] 117)) (((w.alloc (.cells #[.int .i64 n] 3)).alloc (.cells #[.func (.func g) #[] lb] 117)).alloc (.cells #[.int .i64 0] 3)) by go_grown)
  have B2 := B2.below (show Below ((w.alloc (.cells #[.int .i64 n] 3)).alloc (.cells #[.func (.func g) #[] lb] 117)).heap.size ((w.alloc (.cells #[.int .i64 n] 3)).alloc (.cells #[.func (.func g) #[] lb] 117)) (((w.alloc (.cells #[.int .i64 n] 3)).alloc (.cells #[.func (.func g) #[] lb] 117)).alloc (.cells #[.int .i64 0] 3)) by go_grown)
  have B3 : RowAt (((w.alloc (.cells #[.int .i64 n] 3)).alloc (.cells #[.func (.func g) #[] lb] 117)).alloc (.cells #[.int .i64 0] 3)) (w.heap.size + 1 + 1) 0 [.int .i64 0] := by have h := RowAt.box ((w.alloc (.cells #[.int .i64 n] 3)).alloc (.cells #[.func (.func g) #[] lb] 117)) #[.int .i64 0] 3; simp only [World.size_alloc] at h; exact h
  have B1 := B1.below (show Below (((w.alloc (.cells #[.int .i64 n] 3)).alloc (.cells #[.func (.func g) #[] lb] 117)).alloc (.cells #[.int .i64 0] 3)).heap.size (((w.alloc (.cells #[.int .i64 n] 3)).alloc (.cells #[.func (.func g) #[] lb] 117)).alloc (.cells #[.int .i64 0] 3)) ((((w.alloc (.cells #[.int .i64 n] 3)).alloc (.cells #[.func (.func g) #[] lb] 117)).alloc (.cells #[.int .i64 0] 3)).alloc (.cells #[.func (.func 106) #[] #[.pointer (some ⟨w.heap.size + 1 + 1, 0, none⟩), .pointer (some ⟨w.heap.size, 0, none⟩), .pointer (some ⟨w.heap.size + 1, 0, none⟩), .pointer (some ⟨w.heap.size + 1 + 1 + 1, 0, none⟩)]] 151)) by go_grown)
  have B2 := B2.below (show Below (((w.alloc (.cells #[.int .i64 n] 3)).alloc (.cells #[.func (.func g) #[] lb] 117)).alloc (.cells #[.int .i64 0] 3)).heap.size (((w.alloc (.cells #[.int .i64 n] 3)).alloc (.cells #[.func (.func g) #[] lb] 117)).alloc (.cells #[.int .i64 0] 3)) ((((w.alloc (.cells #[.int .i64 n] 3)).alloc (.cells #[.func (.func g) #[] lb] 117)).alloc (.cells #[.int .i64 0] 3)).alloc (.cells #[.func (.func 106) #[] #[.pointer (some ⟨w.heap.size + 1 + 1, 0, none⟩), .pointer (some ⟨w.heap.size, 0, none⟩), .pointer (some ⟨w.heap.size + 1, 0, none⟩), .pointer (some ⟨w.heap.size + 1 + 1 + 1, 0, none⟩)]] 151)) by go_grown)
  have B3 := B3.below (show Below (((w.alloc (.cells #[.int .i64 n] 3)).alloc (.cells #[.func (.func g) #[] lb] 117)).alloc (.cells #[.int .i64 0] 3)).heap.size (((w.alloc (.cells #[.int .i64 n] 3)).alloc (.cells #[.func (.func g) #[] lb] 117)).alloc (.cells #[.int .i64 0] 3)) ((((w.alloc (.cells #[.int .i64 n] 3)).alloc (.cells #[.func (.func g) #[] lb] 117)).alloc (.cells #[.int .i64 0] 3)).alloc (.cells #[.func (.func 106) #[] #[.pointer (some ⟨w.heap.size + 1 + 1, 0, none⟩), .pointer (some ⟨w.heap.size, 0, none⟩), .pointer (some ⟨w.heap.size + 1, 0, none⟩), .pointer (some ⟨w.heap.size + 1 + 1 + 1, 0, none⟩)]] 151)) by go_grown)
  have B4 : RowAt ((((w.alloc (.cells #[.int .i64 n] 3)).alloc (.cells #[.func (.func g) #[] lb] 117)).alloc (.cells #[.int .i64 0] 3)).alloc (.cells #[.func (.func 106) #[] #[.pointer (some ⟨w.heap.size + 1 + 1, 0, none⟩), .pointer (some ⟨w.heap.size, 0, none⟩), .pointer (some ⟨w.heap.size + 1, 0, none⟩), .pointer (some ⟨w.heap.size + 1 + 1 + 1, 0, none⟩)]] 151)) (w.heap.size + 1 + 1 + 1) 0 [.func (.func 106) #[] #[.pointer (some ⟨w.heap.size + 1 + 1, 0, none⟩), .pointer (some ⟨w.heap.size, 0, none⟩), .pointer (some ⟨w.heap.size + 1, 0, none⟩), .pointer (some ⟨w.heap.size + 1 + 1 + 1, 0, none⟩)]] := by have h := RowAt.box (((w.alloc (.cells #[.int .i64 n] 3)).alloc (.cells #[.func (.func g) #[] lb] 117)).alloc (.cells #[.int .i64 0] 3)) #[.func (.func 106) #[] #[.pointer (some ⟨w.heap.size + 1 + 1, 0, none⟩), .pointer (some ⟨w.heap.size, 0, none⟩), .pointer (some ⟨w.heap.size + 1, 0, none⟩), .pointer (some ⟨w.heap.size + 1 + 1 + 1, 0, none⟩)]] 151; simp only [World.size_alloc] at h; exact h
  have hw : Below w.heap.size w ((((w.alloc (.cells #[.int .i64 n] 3)).alloc (.cells #[.func (.func g) #[] lb] 117)).alloc (.cells #[.int .i64 0] 3)).alloc (.cells #[.func (.func 106) #[] #[.pointer (some ⟨w.heap.size + 1 + 1, 0, none⟩), .pointer (some ⟨w.heap.size, 0, none⟩), .pointer (some ⟨w.heap.size + 1, 0, none⟩), .pointer (some ⟨w.heap.size + 1 + 1 + 1, 0, none⟩)]] 151)) := by go_grown
  generalize ((((w.alloc (.cells #[.int .i64 n] 3)).alloc (.cells #[.func (.func g) #[] lb] 117)).alloc (.cells #[.int .i64 0] 3)).alloc (.cells #[.func (.func 106) #[] #[.pointer (some ⟨w.heap.size + 1 + 1, 0, none⟩), .pointer (some ⟨w.heap.size, 0, none⟩), .pointer (some ⟨w.heap.size + 1, 0, none⟩), .pointer (some ⟨w.heap.size + 1 + 1 + 1, 0, none⟩)]] 151)) = w1 at *
  have e4 := B4.box1
  have hcall := hw0.out w1 ⟨by omega, by omega⟩ (by omega) ⟨hw, by omega, by omega, B3.box1, hfz, B1.box1, B2.box1, e4⟩
  clear hw0 B1 B2 B3 B4 hw hfz
  generalize hd : decide (0 ≤ endsK n K (n + 1) 0) = d
  replace hd := Lib.hid hd
  have hcall : Calls Tryz.prog 106 #[.int .i64 0, .pointer (some ⟨w.heap.size + 1 + 1, 0, none⟩), .pointer (some ⟨w.heap.size, 0, none⟩), .pointer (some ⟨w.heap.size + 1, 0, none⟩), .pointer (some ⟨w.heap.size + 1 + 1 + 1, 0, none⟩)] w1 fun e w' => ∃ z : Nat, e = .returned (.bool d) ∧ Four w n g lb (w.heap.size + 1 + 1) w.heap.size (w.heap.size + 1) (w.heap.size + 1 + 1 + 1) z w' ∧ Hid (0 ≤ endsK n K (n + 1) 0 → (z : Int) = endsK n K (n + 1) 0) :=
    hcall.mono fun e w' ⟨z, h1, h2, h3⟩ => ⟨z, by rw [← hd.out, h1]; simp, h2, fun h => h3 rfl h⟩
  cases d with
  | true =>
    have h0 := of_decide_eq_true hd.out
    by_cases hz : endsK n K (n + 1) 0 = n
    · replace hcall : Calls Tryz.prog 106 #[.int .i64 0, .pointer (some ⟨w.heap.size + 1 + 1, 0, none⟩), .pointer (some ⟨w.heap.size, 0, none⟩), .pointer (some ⟨w.heap.size + 1, 0, none⟩), .pointer (some ⟨w.heap.size + 1 + 1 + 1, 0, none⟩)] w1 fun e w' => e = .returned (.bool true) ∧ Four w n g lb (w.heap.size + 1 + 1) w.heap.size (w.heap.size + 1) (w.heap.size + 1 + 1 + 1) n w' :=
        hcall.mono fun e w' ⟨z, h1, h2, h3⟩ => ⟨h1, by have h4 := h3 h0; obtain rfl : z = n := by omega
                                                       exact h2⟩
      have d3 : ((n : Int) == n) = true := by simp
      replace hz := Lib.hid hz
      clear h0
      go_wp2_with (go_at_call 106; refine hcall.mono ?_; rintro e w2 ⟨rfl, F⟩; have e1 := F.c1; have e2 := F.c2)
      go_returns
      exact ⟨by rw [decide_eq_true hz.out]; rfl, F.below⟩
    · replace hcall : Calls Tryz.prog 106 #[.int .i64 0, .pointer (some ⟨w.heap.size + 1 + 1, 0, none⟩), .pointer (some ⟨w.heap.size, 0, none⟩), .pointer (some ⟨w.heap.size + 1, 0, none⟩), .pointer (some ⟨w.heap.size + 1 + 1 + 1, 0, none⟩)] w1 fun e w' => ∃ z : Nat, e = .returned (.bool true) ∧ Four w n g lb (w.heap.size + 1 + 1) w.heap.size (w.heap.size + 1) (w.heap.size + 1 + 1 + 1) z w' ∧ ((z : Int) == n) = false :=
        hcall.mono fun e w' ⟨z, h1, h2, h3⟩ => ⟨z, h1, h2, by have h4 := h3 h0; simp; omega⟩
      replace hz := Lib.hid hz
      clear h0
      go_wp2_with (go_at_call 106; refine hcall.mono ?_; rintro e w2 ⟨z, rfl, F, d3⟩; have e1 := F.c1; have e2 := F.c2)
      go_returns
      exact ⟨by rw [decide_eq_false hz.out]; rfl, F.below⟩
  | false =>
    have h0 := of_decide_eq_false hd.out
    have hz : ¬ endsK n K (n + 1) 0 = n := by omega
    replace hz := Lib.hid hz
    clear h0
    go_wp2_with (go_at_call 106; refine hcall.mono ?_; rintro e w2 ⟨z, rfl, F, -⟩)
    go_returns
    exact ⟨by rw [decide_eq_false hz.out]; rfl, F.below⟩

end Go.Proofs.YtaimekaagmcmnaaGreat

/- DataOk: the program's. -/
namespace Go.Proofs.YtaimekaagmcmnaaGreat
open Go.RowKit
set_option linter.unusedVariables false
set_option linter.unusedSimpArgs false
attribute [local go_sem] Ext.cell

theorem kidsEnd_all {E : Nat → Int} {L : Int} {P : Nat → Prop} (hE : ∀ k, 0 ≤ E k → (k : Int) + 1 ≤ E k ∧ E k ≤ L) (hP : ∀ k, 0 ≤ E k → ∀ j : Nat, k ≤ j → (j : Int) < E k → P j) : ∀ (ks : List Int) (nx : Int), 0 ≤ nx → 0 ≤ kidsEnd E nx ks →
    (∀ k ∈ ks, 0 ≤ k ∧ k < L) ∧ ∀ j : Nat, nx ≤ j → (j : Int) < kidsEnd E nx ks → P j
  | [], nx, h0, h => ⟨fun k hk => by simp at hk, fun j h1 h2 => by unfold kidsEnd at h2; omega⟩
  | k :: ks, nx, h0, h => by
    unfold kidsEnd at h ⊢
    split at h
    · omega
    · split at h
      · omega
      · rename_i h1 h2
        have e : k = nx := by omega
        have h3 := hE k.toNat (by omega)
        have h4 := kidsEnd_all hE hP ks (E k.toNat) (by omega) h
        rw [if_neg h1, if_neg h2]
        refine ⟨fun k' hk' => ?_, fun j h5 h6 => ?_⟩
        · rcases List.mem_cons.1 hk' with rfl | h7
          · omega
          · exact h4.1 k' h7
        · by_cases h7 : (j : Int) < E k.toNat
          · exact hP k.toNat (by omega) j (by omega) h7
          · exact h4.2 j (by omega) h6
theorem ends_kids (l : List GDNode) : ∀ (f i : Nat), 0 ≤ ends l f i → ∀ j : Nat, i ≤ j → (j : Int) < ends l f i → ∀ x, l[j]? = some x → ∀ k ∈ x.kids, 0 ≤ k ∧ k < (l.length : Int)
  | 0, i, h => by simp [ends] at h
  | f + 1, i, h => by
    unfold ends at h ⊢
    cases hi : l[i]? with
    | none => rw [hi] at h; simp at h
    | some n =>
      rw [hi] at h
      have h1 := kidsEnd_all (ends_range l f) (P := fun j => ∀ x, l[j]? = some x → ∀ k ∈ x.kids, 0 ≤ k ∧ k < (l.length : Int)) (fun k hk j h2 h3 => ends_kids l f k hk j h2 h3) n.kids (i + 1) (by omega) h
      intro j h2 h3 x hx
      by_cases e : i = j
      · subst e
        obtain rfl : n = x := Option.some.inj (hi.symm.trans hx)
        exact h1.1
      · exact h1.2 j (by omega) h3 x hx

def kidsAt (l : List GDNode) (i : Nat) : List Int := (l[i]?.map (·.kids)).getD []
theorem kids_in {d : GData} (h : endsK d.nodes.length (kidsAt d.nodes) (d.nodes.length + 1) 0 = d.nodes.length) {i : Nat} {x : GDNode} (hx : d.nodes[i]? = some x) : ∀ k ∈ x.kids, 0 ≤ k ∧ k < (d.nodes.length : Int) := by
  have h' : ends d.nodes (d.nodes.length + 1) 0 = d.nodes.length := by rw [ends_eq]; exact h
  have hi := (List.getElem?_eq_some_iff.1 hx).1
  exact ends_kids d.nodes (d.nodes.length + 1) 0 (by omega) i (by omega) (by omega) x hx

end Go.Proofs.YtaimekaagmcmnaaGreat

/- DataOk: the reference's. -/
namespace Go.Proofs.YtaimekaagmcmnaaGreat
open Go.RowKit
set_option linter.unusedVariables false
set_option linter.unusedSimpArgs false
attribute [local go_sem] Ext.cell

end Go.Proofs.YtaimekaagmcmnaaGreat
