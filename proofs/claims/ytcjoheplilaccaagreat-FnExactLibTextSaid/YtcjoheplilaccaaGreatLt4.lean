/- Parts of the proof, merged: Word, Con, Shape, DNode, Find, FindDNode, Eq, Ends, Ends2, Ends3, Order. -/
import Derived.Test.YtcjoheplilaccaaGreatRows
import Derived.Shelf.Abstract
import Derived.Test.YtcjoheplilaccaaGreatLt3
/- Bytes and words: the program's and the reference's tests. -/
namespace Go.Proofs.YtcjoheplilaccaaGreat
open Go.RowKit
set_option linter.unusedVariables false
set_option linter.unusedSimpArgs false
attribute [local go_sem] Ext.cell

def lowB (n : Int) : Bool := decide (97 ≤ n ∧ n ≤ 122)
def upB (n : Int) : Bool := decide (65 ≤ n ∧ n ≤ 90)
def digB (n : Int) : Bool := decide (48 ≤ n ∧ n ≤ 57)
def wordB (n : Int) : Bool := lowB n || upB n || digB n || decide (n = 95)
def clsB (n : Int) : Int := if lowB n then 1 else if upB n then 2 else if digB n || decide (n = 95) then 3 else 0
theorem clsB_zero (n : Int) : decide (clsB n = 0) = !wordB n := by
  unfold clsB wordB
  cases lowB n <;> cases upB n <;> cases digB n <;> cases decide (n = 95) <;> simp
theorem clsB_two (n : Int) : decide (clsB n = 2) = upB n := by
  have : lowB n = true → upB n = false := by unfold lowB upB; simp; omega
  unfold clsB
  cases h1 : lowB n <;> cases h2 : upB n <;> cases digB n <;> cases decide (n = 95) <;> simp_all
theorem clsB_one (n : Int) : decide (clsB n = 1) = lowB n := by
  unfold clsB
  cases h1 : lowB n <;> cases h2 : upB n <;> cases digB n <;> cases decide (n = 95) <;> simp_all

theorem isLower_c (n : Int) (w : World) : Calls Tryz.prog 69 #[.int .u8 n] w fun e w' => e = .returned (.bool (lowB n)) ∧ w = w' := by
  go_enter Tryz.func69, Tryz.ntmps69
  go_wp2
  all_goals (go_returns; refine ⟨?_, rfl⟩; simp_all [lowB])
  all_goals omega
theorem isUpper_c (n : Int) (w : World) : Calls Tryz.prog 70 #[.int .u8 n] w fun e w' => e = .returned (.bool (upB n)) ∧ w = w' := by
  go_enter Tryz.func70, Tryz.ntmps70
  go_wp2
  all_goals (go_returns; refine ⟨?_, rfl⟩; simp_all [upB])
  all_goals omega
theorem isDigit_c (n : Int) (w : World) : Calls Tryz.prog 66 #[.int .u8 n] w fun e w' => e = .returned (.bool (digB n)) ∧ w = w' := by
  go_enter Tryz.func66, Tryz.ntmps66
  go_wp2
  all_goals (go_returns; refine ⟨?_, rfl⟩; simp_all [digB])
  all_goals omega
set_option maxHeartbeats 1000000 in
theorem isWord_c (n : Int) (w : World) : Calls Tryz.prog 93 #[.int .u8 n] w fun e w' => e = .returned (.bool (wordB n)) ∧ w = w' := by
  have c1 := isLower_c n w
  have c2 := isUpper_c n w
  have c3 := isDigit_c n w
  unfold wordB
  generalize lowB n = b1 at *
  generalize upB n = b2 at *
  generalize digB n = b3 at *
  have h : (n == 95) = decide (n = 95) := rfl
  cases hd : decide (n = 95) <;> rw [hd] at h <;> cases b1 <;> cases b2 <;> cases b3
  all_goals
    clear hd
    go_enter Tryz.func93, Tryz.ntmps93
    go_wp2_with (first | (go_at_call 69; ((with_reducible refine (c1).mono ?_); rintro e w1 ⟨rfl, rfl⟩)) | (go_at_call 70; ((with_reducible refine (c2).mono ?_); rintro e w1 ⟨rfl, rfl⟩)) | (go_at_call 66; ((with_reducible refine (c3).mono ?_); rintro e w1 ⟨rfl, rfl⟩)))
    go_returns
    exact ⟨rfl, rfl⟩
/-- Each byte of a text may stand in a word. -/
def allW (l : List UInt8) : Bool := l.all fun c => wordB c.toNat
theorem allW_take (s : ByteArray) (k : Nat) (h : k < s.size) : allW (s.data.toList.take (k + 1)) = (allW (s.data.toList.take k) && wordB s[k].toNat) := by
  have e : s.data.toList.take (k + 1) = s.data.toList.take k ++ [s[k]] := by
    rw [List.take_succ_eq_append_getElem (by simpa using h)]; rfl
  rw [e]
  unfold allW
  rw [List.all_append]
  simp
theorem allW_full (s : ByteArray) : s.data.toList.take s.size = s.data.toList := List.take_of_length_le (by simp)
theorem allW_bad (s : ByteArray) (k : Nat) (h : k < s.size) (hb : wordB s[k].toNat = false) : allW s.data.toList = false := by
  have h1 := allW_take s k h
  rw [hb, Bool.and_false] at h1
  cases hA : allW s.data.toList with
  | false => rfl
  | true =>
    exfalso
    unfold allW at h1 hA
    rw [List.all_eq_true] at hA
    have : (s.data.toList.take (k + 1)).all (fun c => wordB c.toNat) = true := List.all_eq_true.2 fun x hx => hA x (List.mem_of_mem_take hx)
    rw [this] at h1; cases h1
def wordOk (s : ByteArray) : Bool := allW s.data.toList && decide (1 ≤ (s.size : Int) ∧ (s.size : Int) ≤ 12)

set_option maxHeartbeats 1000000 in
theorem wordOk_c (s : ByteArray) (hs : StrOk s) (w : World) : Calls Tryz.prog 95 #[.string s] w fun e w' => e = .returned (.bool (wordOk s)) ∧ w = w' := by
  unfold StrOk at hs
  go_enter Tryz.func95, Tryz.ntmps95
  go_wp2_with fail
  go_loop [6] (fun i => ∃ k : Nat, k ≤ s.size ∧ i = .int .i64 k ∧ Hid (allW (s.data.toList.take k) = true)) (fun i => s.size - (intOf i).toNat)
  case atStart => exact ⟨0, Nat.zero_le _, rfl, rfl⟩
  case round =>
    obtain ⟨k, hk, rfl, hK⟩ := hrel
    by_cases hlt : k < s.size
    · have c1 := isWord_c (s[k].toNat : Int) w
      have h2 := Lib.hid (allW_take s k hlt)
      have h3 := Lib.hid (allW_bad s k hlt)
      generalize hq : wordB (s[k].toNat : Int) = q at *
      replace hq := Lib.hid hq
      cases q with
      | true =>
        go_wp2_with (go_at_call 93; ((with_reducible refine (c1).mono ?_); rintro e w1 ⟨rfl, rfl⟩))
        go_round
        case rel => exact ⟨k + 1, by omega, by go_num, by show _ = _; rw [h2.out, hK.out]; rfl⟩
        case measure => simp [intOf]; omega
      | false =>
        go_wp2_with (go_at_call 93; ((with_reducible refine (c1).mono ?_); rintro e w1 ⟨rfl, rfl⟩))
        go_returns
        exact ⟨by unfold wordOk; rw [h3.out trivial]; rfl, rfl⟩
    · obtain rfl : k = s.size := by omega
      go_wp2_with (go_at_call 59; ((with_reducible refine (within_c _ _ _ _).mono ?_); rintro e w1 ⟨rfl, rfl⟩))
      go_returns
      exact ⟨by unfold wordOk; rw [allW_full] at hK; rw [hK.out]; simp, rfl⟩

theorem StrOk.of_le {s : ByteArray} (h : StrOk s) : s.size ≤ 9223372036854775807 := h

/-- The first byte, 0 of an empty text. -/
def firstB (s : ByteArray) : Int := if h : 0 < s.size then (s[0]'h).toNat else 0
/-- The reference's test of a word. -/
def word01 (s : ByteArray) (first : Int) : Bool := decide (1 ≤ (s.size : Int) ∧ (s.size : Int) ≤ 12) && decide (clsB (firstB s) = first) && allW s.data.toList
end Go.Proofs.YtcjoheplilaccaaGreat

/- ConOk of both. -/
namespace Go.Proofs.YtcjoheplilaccaaGreat
open Go.RowKit
set_option linter.unusedVariables false
set_option linter.unusedSimpArgs false
attribute [local go_sem] Ext.cell

def conOk (s : ByteArray) : Bool := wordOk s && upB (firstB s)

set_option maxHeartbeats 1000000 in
theorem ConOk_c (s : ByteArray) (hs : StrOk s) (w : World) : Calls Tryz.prog 72 #[.string s] w fun e w' => e = .returned (.bool (conOk s)) ∧ w = w' := by
  have c1 := wordOk_c s hs w
  unfold StrOk at hs
  cases hw : wordOk s with
  | false =>
    rw [hw] at c1
    replace hw := Lib.hid hw
    go_enter Tryz.func72, Tryz.ntmps72
    go_wp2_with (go_at_call 95; ((with_reducible refine (c1).mono ?_); rintro e w1 ⟨rfl, rfl⟩))
    go_returns
    exact ⟨by unfold conOk; rw [hw.out]; rfl, rfl⟩
  | true =>
    rw [hw] at c1
    have h0 : 0 < s.size := by unfold wordOk at hw; simp at hw; omega
    have h0' : (0 : Int) < s.size := by omega
    have hf : firstB s = (s[0]'h0).toNat := by unfold firstB; rw [dif_pos h0]
    replace hw := Lib.hid hw
    replace hf := Lib.hid hf
    go_enter Tryz.func72, Tryz.ntmps72
    go_wp2_with (first | (go_at_call 95; ((with_reducible refine (c1).mono ?_); rintro e w1 ⟨rfl, rfl⟩)) | (go_at_call 70; ((with_reducible refine (isUpper_c _ _).mono ?_); rintro e w1 ⟨rfl, rfl⟩)))
    go_returns
    exact ⟨by unfold conOk; rw [hw.out, hf.out]; rfl, rfl⟩

theorem word01_two (s : ByteArray) : word01 s 2 = conOk s := by
  unfold word01 conOk wordOk
  rw [clsB_two]
  cases decide (1 ≤ (s.size : Int) ∧ (s.size : Int) ≤ 12) <;> cases upB (firstB s) <;> cases allW s.data.toList <;> rfl

end Go.Proofs.YtcjoheplilaccaaGreat

/- How many children a constructor may have: the program's test and the reference's. -/
namespace Go.Proofs.YtcjoheplilaccaaGreat
open Go.RowKit
set_option linter.unusedVariables false
set_option linter.unusedSimpArgs false
attribute [local go_sem] Ext.cell

def sTrue : List UInt8 := [116, 114, 117, 101]
def sFalse : List UInt8 := [102, 97, 108, 115, 101]
def sNil : List UInt8 := [91, 93]
def sCons : List UInt8 := [58, 58]
def conShape (s : ByteArray) (k : Int) (pair : Bool) : Bool :=
  if (s.toList == sTrue || s.toList == sFalse || s.toList == sNil) = true then k == 0
  else if (s.toList == sCons) = true then (k == 1) && pair
  else conOk s && decide (k ≤ 1)

set_option maxHeartbeats 1000000 in
theorem conShape_c (s : ByteArray) (k : Int) (pair : Bool) (hs : StrOk s) (w : World) : Calls Tryz.prog 123 #[.string s, .int .i64 k, .bool pair] w fun e w' => e = .returned (.bool (conShape s k pair)) ∧ w = w' := by
  have c1 := ConOk_c s hs w
  unfold conShape
  cases e1 : (s.toList == sTrue) <;> cases e2 : (s.toList == sFalse) <;> cases e3 : (s.toList == sNil) <;> cases e4 : (s.toList == sCons)
  case false.false.false.false =>
    generalize conOk s = c at *
    unfold sTrue sFalse sNil sCons at *
    cases c
    all_goals
      go_enter Tryz.func123, Tryz.ntmps123
      go_wp2_with (go_at_call 72; ((with_reducible refine (c1).mono ?_); rintro e w1 ⟨rfl, rfl⟩))
      go_returns
      exact ⟨rfl, rfl⟩
  all_goals
    clear c1
    unfold sTrue sFalse sNil sCons at *
    cases e5 : (k == 1)
  all_goals
    go_enter Tryz.func123, Tryz.ntmps123
    go_wp2_with fail
    go_returns
    exact ⟨rfl, rfl⟩

end Go.Proofs.YtcjoheplilaccaaGreat

/- A value's node: when it is right; the program's test. -/
namespace Go.Proofs.YtcjoheplilaccaaGreat
open Go.RowKit
set_option linter.unusedVariables false
set_option linter.unusedSimpArgs false
attribute [local go_sem] Ext.cell

def kindAt (l : List GDNode) (k : Int) : Int := if 0 ≤ k then (l[k.toNat]?.map (·.kind)).getD 0 else 0
def pairOf (l : List GDNode) (ks : List Int) : Bool := match ks with
  | [k] => kindAt l k == 5
  | _ => false
def nodeOk (l : List GDNode) (x : GDNode) : Bool :=
  if x.kind = 3 then ((x.kids.length : Int) == 0) && (x.s.toList.isEmpty && decide (-4611686018427387904 ≤ x.n ∧ x.n ≤ 4611686018427387903))
  else if x.kind = 2 then ((x.kids.length : Int) == 0) && (x.n == 0)
  else if x.kind = 6 then ((x.kids.length : Int) == 0) && ((x.n == 0) && x.s.toList.isEmpty)
  else if x.kind = 5 then ((x.kids.length : Int) == 2) && ((x.n == 0) && x.s.toList.isEmpty)
  else if x.kind = 4 then (x.n == 0) && conShape x.s x.kids.length (pairOf l x.kids)
  else false

end Go.Proofs.YtcjoheplilaccaaGreat

/- What an index search hands back. -/
namespace Go.Proofs.YtcjoheplilaccaaGreat
open Go.RowKit

def IdxPost {α : Type} (p : α → Bool) (xs : List α) (w : World) (e : Ending) (w' : World) : Prop :=
  ∃ n : Int, e = .returned (.int .i64 n) ∧ decide (0 ≤ n) = xs.any p ∧ Below w.heap.size w w'

end Go.Proofs.YtcjoheplilaccaaGreat

/- slices.ContainsFunc over []impl.DNode, with a closure that answers for each element and may make memory. -/
namespace Go.Proofs.YtcjoheplilaccaaGreat
open Go.RowKit
set_option linter.unusedVariables false
set_option linter.unusedSimpArgs false
attribute [local go_sem] Ext.cell

end Go.Proofs.YtcjoheplilaccaaGreat

/- The walks of the eq functions: two values are equal as data. Printed by gen_helpers.py. -/
namespace Go.Proofs.YtcjoheplilaccaaGreat
open Go.RowKit
set_option linter.unusedVariables false
set_option linter.unusedSimpArgs false
attribute [local go_sem] Ext.cell


set_option maxHeartbeats 1000000 in
theorem eqStringS_c (x y : List ByteArray) (u v : Value) (lo lo' : Nat) (w : World) (hx : Sl StrR 1 lo w u x) (hy : Sl StrR 1 lo' w v y) :
    Calls Tryz.prog 9 #[u, v] w fun e w' => e = .returned (.bool (decide (x = y))) ∧ Below w.heap.size w w' := by
  obtain ⟨a1, c1, rfl, l1, m1, h1⟩ := hx
  obtain ⟨a2, c2, rfl, l2, m2, h2⟩ := hy
  obtain ⟨n, hn⟩ : ∃ n, n = x.length := ⟨_, rfl⟩
  obtain ⟨m, hm⟩ : ∃ m, m = y.length := ⟨_, rfl⟩
  rw [← hn] at l1 ⊢
  rw [← hm] at l2 ⊢
  have X1 := Lib.hid hn; have X2 := Lib.hid hm
  clear hn hm
  by_cases hl : n = m
  · subst hl
    go_enter Tryz.func9, Tryz.ntmps9
    go_wp2_with fail
    go_loopw [5] (fun i wr => ∃ k : Nat, k ≤ n ∧ i = .int .i64 k ∧ Hid (x.take k = y.take k) ∧ Below w.heap.size w wr) (fun i _ => n - (intOf i).toNat)
    case atStart => exact ⟨0, by omega, rfl, rfl, Below.refl _ _⟩
    case round =>
      obtain ⟨k, hk, rfl, ht, hw⟩ := hrel
      by_cases hlt : k < n
      · obtain ⟨b1, o1, p, s1, _, rfl, P1, q1, r1⟩ := (h1.below StrR.good hw).get X1 hlt
        obtain ⟨b2, o2, q, s2, _, rfl, P2, q2, r2⟩ := (h2.below StrR.good hw).get X2 hlt
        obtain ⟨rfl, _⟩ := q1; obtain ⟨rfl, _⟩ := q2
        have R1 : ∀ z : Ext wr, z.val.cell? ⟨b1, o1 + k, none⟩ = some (.string p) := fun z => by simpa using (r1.ext z) 0 _ rfl
        have R2 : ∀ z : Ext wr, z.val.cell? ⟨b2, o2 + k, none⟩ = some (.string q) := fun z => by simpa using (r2.ext z) 0 _ rfl
        clear r1 r2
        go_wp2_with fail
        refine wp_region_ext_lit (by kernel_rfl) (by kernel_rfl) ?_
        repeat (go_big_quiet_step ((fail)))
        refine wpQuiet_nil ?_
        rintro _ ⟨⟨w2, hw2⟩, rfl⟩
        clear R1 R2
        have hw3 := hw.trans (hw2.mono hw.size)
        generalize hd : (!p.toList == q.toList) = d
        have E := Lib.hid hd; clear hd
        cases d
        · have E := neq_of_str_false E.out
          have E := Lib.hid E
          go_wp2
          go_roundw
          case rel => exact ⟨k + 1, by omega, by go_num, by show _ = _; rw [take_snoc' P1.out, take_snoc' P2.out, ht.out, E.out], hw3⟩
          case measure => simp [intOf]; omega
        · have E := neq_of_str_true E.out
          have E := Lib.hid E
          go_wp2
          go_returns
          refine ⟨?_, hw3⟩
          have : x ≠ y := by
            rintro rfl
            exact E.out (Option.some.inj (P1.out.symm.trans P2.out))
          simp [this]
      · go_wp2
        go_returns
        refine ⟨?_, hw⟩
        obtain rfl : k = n := by omega
        have h1 : x = y := by
          have := ht.out
          rwa [take_full X1, take_full X2] at this
        simp [h1]
  · go_enter Tryz.func9, Tryz.ntmps9
    go_wp2
    go_returns
    refine ⟨?_, Below.refl _ _⟩
    have h1 : x ≠ y := by
      rintro rfl
      exact hl (X1.out.trans X2.out.symm)
    simp [h1]


end Go.Proofs.YtcjoheplilaccaaGreat

/- Where the value at a place ends: plain law, and the reference's walk. -/
namespace Go.Proofs.YtcjoheplilaccaaGreat
open Go.RowKit
set_option linter.unusedVariables false
set_option linter.unusedSimpArgs false
attribute [local go_sem] Ext.cell

def kidsEnd (E : Nat → Int) : Int → List Int → Int
  | next, [] => next
  | next, k :: ks => if k ≠ next then -1 else if E k.toNat < 0 then -1 else kidsEnd E (E k.toNat) ks
def ends (l : List GDNode) : Nat → Nat → Int
  | 0, _ => -1
  | f + 1, i => match l[i]? with
    | none => -1
    | some n => kidsEnd (ends l f) (i + 1) n.kids

theorem kidsEnd_range {E : Nat → Int} {L : Int} (hE : ∀ k, 0 ≤ E k → (k : Int) + 1 ≤ E k ∧ E k ≤ L) : ∀ (ks : List Int) (nx : Int), 0 ≤ nx → nx ≤ L → 0 ≤ kidsEnd E nx ks → nx ≤ kidsEnd E nx ks ∧ kidsEnd E nx ks ≤ L
  | [], nx, h0, hL, h => ⟨Int.le_refl _, hL⟩
  | k :: ks, nx, h0, hL, h => by
    unfold kidsEnd at h ⊢
    split at h
    · omega
    · split at h
      · omega
      · rename_i h1 h2
        have e : k = nx := by omega
        have h3 := hE k.toNat (by omega)
        have h4 := kidsEnd_range hE ks (E k.toNat) (by omega) h3.2 h
        rw [if_neg h1, if_neg h2]
        omega
theorem ends_range (l : List GDNode) : ∀ (f i : Nat), 0 ≤ ends l f i → (i : Int) + 1 ≤ ends l f i ∧ ends l f i ≤ l.length
  | 0, i, h => by simp [ends] at h
  | f + 1, i, h => by
    unfold ends at h ⊢
    cases hi : l[i]? with
    | none => rw [hi] at h; simp at h
    | some n =>
      rw [hi] at h
      have hlt := (List.getElem?_eq_some_iff.1 hi).1
      exact kidsEnd_range (ends_range l f) n.kids (i + 1) (by omega) (by omega) h

end Go.Proofs.YtcjoheplilaccaaGreat

/- The reference's l07End. -/
namespace Go.Proofs.YtcjoheplilaccaaGreat
open Go.RowKit
set_option linter.unusedVariables false
set_option linter.unusedSimpArgs false
attribute [local go_sem] Ext.cell

theorem ends_out {l : List GDNode} {i : Nat} (h : l.length ≤ i) : ∀ f, ends l f i = -1
  | 0 => rfl
  | f + 1 => by unfold ends; rw [List.getElem?_eq_none h]

end Go.Proofs.YtcjoheplilaccaaGreat

/- The reference's l07End, in range. -/
namespace Go.Proofs.YtcjoheplilaccaaGreat
open Go.RowKit
set_option linter.unusedVariables false
set_option linter.unusedSimpArgs false
attribute [local go_sem] Ext.cell

end Go.Proofs.YtcjoheplilaccaaGreat

/- The program's test that nodes are a tree in preorder: its walk, against the plain law. -/
namespace Go.Proofs.YtcjoheplilaccaaGreat
open Go.RowKit
set_option linter.unusedVariables false
set_option linter.unusedSimpArgs false
attribute [local go_sem] Ext.cell

/-- Where the value at a place ends, over whatever gives the children. -/
def endsK (n : Nat) (K : Nat → List Int) : Nat → Nat → Int
  | 0, _ => -1
  | f + 1, i => if n ≤ i then -1 else kidsEnd (endsK n K f) (i + 1) (K i)
theorem endsK_out {n : Nat} {K : Nat → List Int} {i : Nat} (h : n ≤ i) : ∀ f, endsK n K f i = -1
  | 0 => rfl
  | f + 1 => by unfold endsK; rw [if_pos h]
theorem endsK_range (n : Nat) (K : Nat → List Int) : ∀ (f i : Nat), 0 ≤ endsK n K f i → (i : Int) + 1 ≤ endsK n K f i ∧ endsK n K f i ≤ n
  | 0, i, h => by simp [endsK] at h
  | f + 1, i, h => by
    unfold endsK at h ⊢
    split at h
    · simp at h
    · rename_i hi
      rw [if_neg hi]
      exact kidsEnd_range (endsK_range n K f) (K i) (i + 1) (by omega) (by omega) h
theorem kidsEnd_congr {E F : Nat → Int} (h : ∀ k, E k = F k) (nx : Int) (ks : List Int) : kidsEnd E nx ks = kidsEnd F nx ks := by
  rw [show E = F from funext h]
theorem ends_eq (l : List GDNode) : ∀ f i, ends l f i = endsK l.length (fun i => (l[i]?.map (·.kids)).getD []) f i
  | 0, _ => rfl
  | f + 1, i => by
    unfold ends endsK
    cases hi : l[i]? with
    | none => rw [if_pos (by simpa using hi)]
    | some x =>
      rw [if_neg (by have := (List.getElem?_eq_some_iff.1 hi).1; omega)]
      show kidsEnd (ends l f) (i + 1) x.kids = _
      rw [kidsEnd_congr (ends_eq l f)]
      simp [hi]

/-- What is asked of the function that gives the children: at each place it hands back a slice that lies there already. -/
def KidsGive (n : Nat) (K : Nat → List Int) (g : Nat) (lb : Array Value) (lo : Nat) (w : World) : Prop :=
  ∀ i : Nat, i < n → ∃ v, Sl IntR 1 lo w v (K i) ∧ ∀ W, Below w.heap.size w W → Calls Tryz.prog g (#[.int .i64 i] ++ lb) W fun e w' => e = .returned v ∧ Below W.heap.size W w'

/-- The four boxes of the walk: the next place, how many, the children's function, the walk itself. -/
structure Four (w0 : World) (n g : Nat) (lb : Array Value) (b1 b2 b3 b4 : Nat) (z : Nat) (w : World) : Prop where
  below : Below w0.heap.size w0 w
  up : w0.heap.size ≤ b1
  le : z ≤ n
  c1 : w.cell? ⟨b1, 0, none⟩ = some (.int .i64 z)
  f1 : w.frozen? ⟨b1, 0, none⟩ = false
  c2 : w.cell? ⟨b2, 0, none⟩ = some (.int .i64 n)
  c3 : w.cell? ⟨b3, 0, none⟩ = some (.func (.func g) #[] lb)
  c4 : w.cell? ⟨b4, 0, none⟩ = some (.func (.func 120) #[] #[.pointer (some ⟨b1, 0, none⟩), .pointer (some ⟨b2, 0, none⟩), .pointer (some ⟨b3, 0, none⟩), .pointer (some ⟨b4, 0, none⟩)])

theorem Four.more {w0 : World} {n g : Nat} {lb : Array Value} {b1 b2 b3 b4 z : Nat} {w w' : World} (h : Four w0 n g lb b1 b2 b3 b4 z w) (hb : Below w.heap.size w w') : Four w0 n g lb b1 b2 b3 b4 z w' :=
  ⟨h.below.trans (hb.mono h.below.size), h.up, h.le, cell_below hb h.c1, by rw [hb.frozen (p := ⟨b1, 0, none⟩) (World.block_lt_of_cell? w _ h.c1), h.f1], cell_below hb h.c2, cell_below hb h.c3, cell_below hb h.c4⟩

theorem cell_setCell_block (w : World) (g o b o' : Nat) (u : Value) (h : b ≠ g) : (w.setCell ⟨g, o, none⟩ u).cell? ⟨b, o', none⟩ = w.cell? ⟨b, o', none⟩ :=
  World.cell?_of_block (w := w) (a := ⟨b, o', none⟩) (Below.heap_setCell w ⟨g, o, none⟩ u b h)

theorem Four.next {w0 : World} {n g : Nat} {lb : Array Value} {b1 b2 b3 b4 z : Nat} {w : World} (h : Four w0 n g lb b1 b2 b3 b4 z w) (h2 : b2 ≠ b1) (h3 : b3 ≠ b1) (h4 : b4 ≠ b1) (z' : Nat) (hz : z' ≤ n) : Four w0 n g lb b1 b2 b3 b4 z' (w.setCell ⟨b1, 0, none⟩ (.int .i64 z')) :=
  ⟨h.below.trans (Below.setCell (Below.refl _ w) (p := ⟨b1, 0, none⟩) h.up _), h.up, hz, cell_setCell_eq _ _ _ _ h.c1, by rw [frozen_setCell, h.f1], by rw [cell_setCell_block _ _ _ _ _ _ h2, h.c2], by rw [cell_setCell_block _ _ _ _ _ _ h3, h.c3], by rw [cell_setCell_block _ _ _ _ _ _ h4, h.c4]⟩

def WalkPost (n : Nat) (K : Nat → List Int) (g : Nat) (lb : Array Value) (w0 : World) (b1 b2 b3 b4 f z : Nat) (i : Int) (e : Ending) (w' : World) : Prop :=
  ∃ z' : Nat, e = .returned (.bool (decide (i = z ∧ 0 ≤ endsK n K f z))) ∧ Four w0 n g lb b1 b2 b3 b4 z' w' ∧ (i = z → 0 ≤ endsK n K f z → (z' : Int) = endsK n K f z)

set_option maxRecDepth 100000 in
set_option maxHeartbeats 4000000 in
theorem walk_c (n : Nat) (hn : n ≤ 1152921504606846976) (K : Nat → List Int) (g : Nat) (lb : Array Value) (lo : Nat) (w0 : World) (hk : KidsGive n K g lb lo w0) (eg : ∀ args w, (callFunc g args).run Tryz.prog w = .ok (.enter g args) w)
    (b1 b2 b3 b4 : Nat) (h2 : b2 ≠ b1) (h3 : b3 ≠ b1) (h4 : b4 ≠ b1) : ∀ (f z : Nat) (i : Int) (w : World), I64 i → n < z + f → Four w0 n g lb b1 b2 b3 b4 z w →
    Calls Tryz.prog 120 #[.int .i64 i, .pointer (some ⟨b1, 0, none⟩), .pointer (some ⟨b2, 0, none⟩), .pointer (some ⟨b3, 0, none⟩), .pointer (some ⟨b4, 0, none⟩)] w (WalkPost n K g lb w0 b1 b2 b3 b4 f z i)
  | 0, z, i, w, hi, hf, hF => absurd hF.le (by omega)
  | f + 1, z, i, w, hi, hf, hF => by
    have ih := walk_c n hn K g lb lo w0 hk eg b1 b2 b3 b4 h2 h3 h4 f
    replace ih := Lib.hid ih
    replace hk := Lib.hid hk
    obtain ⟨hi0, hi1⟩ := hi
    have e1 := hF.c1
    have e2 := hF.c2
    have e5 := hF.f1
    by_cases hiz : i = z
    · subst hiz
      have d1 : ((z : Int) != (z : Int)) = false := by simp
      by_cases hzn : z < n
      · have d2 : decide ((n : Int) ≤ (z : Int)) = false := decide_eq_false (by omega)
        have d2' : decide (n ≤ z) = false := decide_eq_false (by omega)
        obtain ⟨v, hv, hc⟩ := hk.out z hzn
        go_enter Tryz.func120, Tryz.ntmps120
        go_upto_region 4 with fail
        generalize hW : w.setCell ⟨b1, 0, none⟩ (.int .i64 ((z : Int) + 1)) = W
        have F1 : Four w0 n g lb b1 b2 b3 b4 (z + 1) W := by rw [← hW]; exact hF.next h2 h3 h4 (z + 1) hzn
        clear hW e1 e2 e5 hF
        have e3 := F1.c3
        replace hc := hc W F1.below
        have hends : endsK n K (f + 1) z = kidsEnd (endsK n K f) (z + 1) (K z) := by conv => lhs; unfold endsK; rw [if_neg (by omega)]
        obtain ⟨ka, kc, rfl, kl, km, k0⟩ := hv
        obtain ⟨m, hm⟩ : ∃ m, m = (K z).length := ⟨_, rfl⟩
        rw [← hm] at kl hc
        replace hm := Lib.hid hm
        replace hends := Lib.hid hends
        replace k0 := Lib.hid k0
        go_wp2_with (go_at_fn g; refine hc.mono ?_; rintro e w1 ⟨rfl, hb⟩)
        have F2 := F1.more hb
        clear e3 F1 hb hc
        go_loopw [23] (fun ii wr => ∃ (j : Nat) (z' : Nat), j ≤ m ∧ z + 1 ≤ z' ∧ ii = .int .i64 j ∧ Hid (kidsEnd (endsK n K f) (z + 1) (K z) = kidsEnd (endsK n K f) z' ((K z).drop j)) ∧ Four w0 n g lb b1 b2 b3 b4 z' wr) (fun ii _ => m - (intOf ii).toNat)
        case atStart => exact ⟨0, z + 1, by omega, by omega, by simp, by simp [Hid], F2⟩
        case round =>
          clear F2
          obtain ⟨j, z', hj, hz1, rfl, hK, F2⟩ := hrel
          by_cases hjm : j < m
          · obtain ⟨b5, o5, k, s5, _, rfl, P5, ⟨rfl, hk64⟩, r5⟩ := ((k0.out.below IntR.good F2.below).get hm hjm)
            have e0 : wr.cell? ⟨b5, o5 + j, none⟩ = some (.int .i64 k) := by simpa using r5 0 _ rfl
            have e4 := F2.c4
            have hdrop : (K z).drop j = k :: (K z).drop (j + 1) := by
              obtain ⟨hjl, he⟩ := List.getElem?_eq_some_iff.1 P5.out
              rw [List.drop_eq_getElem_cons hjl, he]
            rw [hdrop] at hK
            clear r5 hdrop
            have hcall := ih.out z' k wr hk64 (by omega) F2
            generalize hd : decide (k = (z' : Int) ∧ 0 ≤ endsK n K f z') = d
            replace hd := Lib.hid hd
            have hcall : Calls Tryz.prog 120 #[.int .i64 k, .pointer (some ⟨b1, 0, none⟩), .pointer (some ⟨b2, 0, none⟩), .pointer (some ⟨b3, 0, none⟩), .pointer (some ⟨b4, 0, none⟩)] wr fun e w' => ∃ z'' : Nat, e = .returned (.bool d) ∧ Four w0 n g lb b1 b2 b3 b4 z'' w' ∧ Hid (k = z' → 0 ≤ endsK n K f z' → (z'' : Int) = endsK n K f z') :=
              hcall.mono fun e w' ⟨z'', h1, h2, h3⟩ => ⟨z'', by rw [← hd.out]; exact h1, h2, h3⟩
            cases d with
            | true =>
              go_wp2_with (go_at_call 120; refine hcall.mono ?_; rintro e w1 ⟨z'', rfl, F3, hz''⟩)
              go_roundw
              case rel =>
                have hd := of_decide_eq_true hd.out
                have hz3 := hz''.out hd.1 hd.2
                have hr := (endsK_range n K f z' hd.2).1
                refine ⟨j + 1, z'', by omega, by omega, by go_num, ?_, F3⟩
                show _ = _
                rw [hK.out, hz3]
                conv => lhs; unfold kidsEnd
                rw [if_neg (by omega), hd.1, Int.toNat_natCast, if_neg (by omega)]
              case measure => simp [intOf]; omega
            | false =>
              go_wp2_with (go_at_call 120; refine hcall.mono ?_; rintro e w1 ⟨z'', rfl, F3, hz''⟩)
              go_returns
              have hd := of_decide_eq_false hd.out
              have hneg : endsK n K (f + 1) z = -1 := by
                rw [hends.out, hK.out]
                conv => lhs; unfold kidsEnd
                by_cases hkz : k = z'
                · rw [if_neg (by omega), hkz, Int.toNat_natCast, if_pos (by omega)]
                · rw [if_pos hkz]
              exact ⟨z'', by rw [hneg]; simp, F3, fun _ h => absurd h (by rw [hneg]; omega)⟩
          · obtain rfl : j = m := by omega
            go_wp2
            go_returns
            have hpos : endsK n K (f + 1) z = z' := by
              rw [hends.out, hK.out, hm.out, List.drop_length]
              unfold kidsEnd; rfl
            exact ⟨z', by rw [hpos]; simp, F2, fun _ _ => hpos.symm⟩
      · have d2 : decide ((n : Int) ≤ (z : Int)) = true := decide_eq_true (by omega)
        have d2' : decide (n ≤ z) = true := decide_eq_true (by omega)
        go_enter Tryz.func120, Tryz.ntmps120
        go_wp2_with fail
        go_returns
        refine ⟨z, ?_, hF, fun _ h => ?_⟩
        · rw [endsK_out (by omega)]; simp
        · rw [endsK_out (by omega)] at h; omega
    · have d1 : (i != (z : Int)) = true := by simpa using hiz
      go_enter Tryz.func120, Tryz.ntmps120
      go_wp2_with fail
      go_returns
      exact ⟨z, by simp [hiz], hF, fun h => absurd h hiz⟩

end Go.Proofs.YtcjoheplilaccaaGreat
