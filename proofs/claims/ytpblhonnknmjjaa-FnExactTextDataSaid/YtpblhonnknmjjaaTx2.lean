/- Parts of the proof, merged: Word, Con, Shape, DNode, Find, FindDNode, Eq, Ends, Ends2, Ends3. -/
import Derived.Test.YtpblhonnknmjjaaRows
import Derived.Shelf.Abstract
import Derived.Test.YtpblhonnknmjjaaTx1
/- Bytes and words: the program's and the reference's tests. -/
namespace Go.Proofs.Ytpblhonnknmjjaa
open Go.RowKit
set_option linter.unusedVariables false
set_option linter.unusedSimpArgs false
attribute [local go_sem] Ext.cell

def lowB (n : Int) : Bool := decide (97 ≤ n ∧ n ≤ 122)
def upB (n : Int) : Bool := decide (65 ≤ n ∧ n ≤ 90)
def digB (n : Int) : Bool := decide (48 ≤ n ∧ n ≤ 57)
def wordB (n : Int) : Bool := lowB n || upB n || digB n || decide (n = 95)
def clsB (n : Int) : Int := if lowB n then 1 else if upB n then 2 else if digB n || decide (n = 95) then 3 else 0
theorem clsB_zero (n : Int) : decide (clsB n = 0) = !wordB n := by
  unfold clsB wordB
  cases lowB n <;> cases upB n <;> cases digB n <;> cases decide (n = 95) <;> simp
theorem clsB_two (n : Int) : decide (clsB n = 2) = upB n := by
  have : lowB n = true → upB n = false := by unfold lowB upB; simp; omega
  unfold clsB
  cases h1 : lowB n <;> cases h2 : upB n <;> cases digB n <;> cases decide (n = 95) <;> simp_all
theorem clsB_one (n : Int) : decide (clsB n = 1) = lowB n := by
  unfold clsB
  cases h1 : lowB n <;> cases h2 : upB n <;> cases digB n <;> cases decide (n = 95) <;> simp_all

theorem isLower_c (n : Int) (w : World) : Calls Try.prog 81 #[.int .u8 n] w fun e w' => e = .returned (.bool (lowB n)) ∧ w = w' := by
  go_enter Try.func81, Try.ntmps81
  go_wp2
  all_goals (go_returns; refine ⟨?_, rfl⟩; simp_all [lowB])
  all_goals omega
theorem isUpper_c (n : Int) (w : World) : Calls Try.prog 78 #[.int .u8 n] w fun e w' => e = .returned (.bool (upB n)) ∧ w = w' := by
  go_enter Try.func78, Try.ntmps78
  go_wp2
  all_goals (go_returns; refine ⟨?_, rfl⟩; simp_all [upB])
  all_goals omega
theorem isDigit_c (n : Int) (w : World) : Calls Try.prog 55 #[.int .u8 n] w fun e w' => e = .returned (.bool (digB n)) ∧ w = w' := by
  go_enter Try.func55, Try.ntmps55
  go_wp2
  all_goals (go_returns; refine ⟨?_, rfl⟩; simp_all [digB])
  all_goals omega
set_option maxHeartbeats 1000000 in
theorem isWord_c (n : Int) (w : World) : Calls Try.prog 59 #[.int .u8 n] w fun e w' => e = .returned (.bool (wordB n)) ∧ w = w' := by
  have c1 := isLower_c n w
  have c2 := isUpper_c n w
  have c3 := isDigit_c n w
  unfold wordB
  generalize lowB n = b1 at *
  generalize upB n = b2 at *
  generalize digB n = b3 at *
  have h : (n == 95) = decide (n = 95) := rfl
  cases hd : decide (n = 95) <;> rw [hd] at h <;> cases b1 <;> cases b2 <;> cases b3
  all_goals
    clear hd
    go_enter Try.func59, Try.ntmps59
    go_wp2_with (first | (go_at_call 81; ((with_reducible refine (c1).mono ?_); rintro e w1 ⟨rfl, rfl⟩)) | (go_at_call 78; ((with_reducible refine (c2).mono ?_); rintro e w1 ⟨rfl, rfl⟩)) | (go_at_call 55; ((with_reducible refine (c3).mono ?_); rintro e w1 ⟨rfl, rfl⟩)))
    go_returns
    exact ⟨rfl, rfl⟩
set_option maxHeartbeats 1000000 in
theorem l01Class_c (n : Int) (w : World) : Calls Try.prog 87 #[.int .u8 n] w fun e w' => e = .returned (.int .i64 (clsB n)) ∧ w = w' := by
  go_enter Try.func87, Try.ntmps87
  go_wp2
  all_goals (go_returns; refine ⟨?_, rfl⟩; simp_all [clsB, lowB, upB, digB])
  all_goals (try (intros; omega))
  all_goals (try (rw [if_neg (by omega)]))
  all_goals (try (rw [if_neg (by omega)]))
  all_goals (try (rw [if_neg (by omega)]))
  all_goals (try (rw [if_pos (by omega)]))

/-- Each byte of a text may stand in a word. -/
def allW (l : List UInt8) : Bool := l.all fun c => wordB c.toNat
theorem allW_take (s : ByteArray) (k : Nat) (h : k < s.size) : allW (s.data.toList.take (k + 1)) = (allW (s.data.toList.take k) && wordB s[k].toNat) := by
  have e : s.data.toList.take (k + 1) = s.data.toList.take k ++ [s[k]] := by
    rw [List.take_succ_eq_append_getElem (by simpa using h)]; rfl
  rw [e]
  unfold allW
  rw [List.all_append]
  simp
theorem allW_full (s : ByteArray) : s.data.toList.take s.size = s.data.toList := List.take_of_length_le (by simp)
theorem allW_bad (s : ByteArray) (k : Nat) (h : k < s.size) (hb : wordB s[k].toNat = false) : allW s.data.toList = false := by
  have h1 := allW_take s k h
  rw [hb, Bool.and_false] at h1
  cases hA : allW s.data.toList with
  | false => rfl
  | true =>
    exfalso
    unfold allW at h1 hA
    rw [List.all_eq_true] at hA
    have : (s.data.toList.take (k + 1)).all (fun c => wordB c.toNat) = true := List.all_eq_true.2 fun x hx => hA x (List.mem_of_mem_take hx)
    rw [this] at h1; cases h1
def wordOk (s : ByteArray) : Bool := allW s.data.toList && decide (1 ≤ (s.size : Int) ∧ (s.size : Int) ≤ 12)

set_option maxHeartbeats 1000000 in
theorem wordOk_c (s : ByteArray) (hs : StrOk s) (w : World) : Calls Try.prog 92 #[.string s] w fun e w' => e = .returned (.bool (wordOk s)) ∧ w = w' := by
  unfold StrOk at hs
  go_enter Try.func92, Try.ntmps92
  go_wp2_with fail
  go_loop [6] (fun i => ∃ k : Nat, k ≤ s.size ∧ i = .int .i64 k ∧ Hid (allW (s.data.toList.take k) = true)) (fun i => s.size - (intOf i).toNat)
  case atStart => exact ⟨0, Nat.zero_le _, rfl, rfl⟩
  case round =>
    obtain ⟨k, hk, rfl, hK⟩ := hrel
    by_cases hlt : k < s.size
    · have c1 := isWord_c (s[k].toNat : Int) w
      have h2 := Lib.hid (allW_take s k hlt)
      have h3 := Lib.hid (allW_bad s k hlt)
      generalize hq : wordB (s[k].toNat : Int) = q at *
      replace hq := Lib.hid hq
      cases q with
      | true =>
        go_wp2_with (go_at_call 59; ((with_reducible refine (c1).mono ?_); rintro e w1 ⟨rfl, rfl⟩))
        go_round
        case rel => exact ⟨k + 1, by omega, by go_num, by show _ = _; rw [h2.out, hK.out]; rfl⟩
        case measure => simp [intOf]; omega
      | false =>
        go_wp2_with (go_at_call 59; ((with_reducible refine (c1).mono ?_); rintro e w1 ⟨rfl, rfl⟩))
        go_returns
        exact ⟨by unfold wordOk; rw [h3.out trivial]; rfl, rfl⟩
    · obtain rfl : k = s.size := by omega
      go_wp2_with (go_at_call 41; ((with_reducible refine (within_c _ _ _ _).mono ?_); rintro e w1 ⟨rfl, rfl⟩))
      go_returns
      exact ⟨by unfold wordOk; rw [allW_full] at hK; rw [hK.out]; simp, rfl⟩

theorem StrOk.of_le {s : ByteArray} (h : StrOk s) : s.size ≤ 9223372036854775807 := h

/-- The first byte, 0 of an empty text. -/
def firstB (s : ByteArray) : Int := if h : 0 < s.size then (s[0]'h).toNat else 0
/-- The reference's test of a word. -/
def word01 (s : ByteArray) (first : Int) : Bool := decide (1 ≤ (s.size : Int) ∧ (s.size : Int) ≤ 12) && decide (clsB (firstB s) = first) && allW s.data.toList
set_option maxHeartbeats 1000000 in
theorem l01Word_c (s : ByteArray) (fi : Int) (hs : StrOk s) (w : World) : Calls Try.prog 72 #[.string s, .int .i64 fi] w fun e w' => e = .returned (.bool (word01 s fi)) ∧ w = w' := by
  unfold StrOk at hs
  by_cases h1 : 1 ≤ s.size ∧ s.size ≤ 12
  · obtain ⟨h1, h12⟩ := h1
    have h0 : 0 < s.size := by omega
    have h0' : (0 : Int) < s.size := by omega
    have d1 : decide ((s.size : Int) < 1) = false := by simp; omega
    have d2 : decide ((12 : Int) < s.size) = false := by simp; omega
    have hr : decide (1 ≤ (s.size : Int) ∧ (s.size : Int) ≤ 12) = true := by simp; omega
    have hf : firstB s = (s[0]'h0).toNat := by unfold firstB; rw [dif_pos h0]
    have c0 := l01Class_c ((s[0]'h0).toNat : Int) w
    by_cases hc : clsB ((s[0]'h0).toNat : Int) = fi
    · have hw : word01 s fi = allW s.data.toList := by unfold word01; rw [hr, hf, hc]; simp
      rw [hc] at c0
      have d3 : (fi != fi) = false := by simp
      replace hw := Lib.hid hw
      clear hc hf hr
      go_enter Try.func72, Try.ntmps72
      go_wp2_with (go_at_call 87; ((with_reducible refine (c0).mono ?_); rintro e w1 ⟨rfl, rfl⟩))
      go_loop [5] (fun i => ∃ k : Nat, k ≤ s.size ∧ i = .int .i64 k ∧ Hid (allW (s.data.toList.take k) = true)) (fun i => s.size - (intOf i).toNat)
      case atStart => exact ⟨0, Nat.zero_le _, rfl, rfl⟩
      case round =>
        obtain ⟨k, hk, rfl, hK⟩ := hrel
        by_cases hlt : k < s.size
        · have c1 := l01Class_c (s[k].toNat : Int) w
          have h2 := Lib.hid (allW_take s k hlt)
          have h3 := Lib.hid (allW_bad s k hlt)
          have h4 := clsB_zero (s[k].toNat : Int)
          generalize hq : clsB (s[k].toNat : Int) = q at *
          generalize hq' : wordB (s[k].toNat : Int) = q' at *
          replace hq := Lib.hid hq
          replace hq' := Lib.hid hq'
          have h5 : (q == 0) = !q' := h4
          clear h4
          cases q' with
          | true =>
            have h6 : (q == 0) = false := h5
            clear h5
            go_wp2_with (go_at_call 87; ((with_reducible refine (c1).mono ?_); rintro e w1 ⟨rfl, rfl⟩))
            go_round
            case rel => exact ⟨k + 1, by omega, by go_num, by show _ = _; rw [h2.out, hK.out]; rfl⟩
            case measure => simp [intOf]; omega
          | false =>
            have h6 : (q == 0) = true := h5
            clear h5
            go_wp2_with (go_at_call 87; ((with_reducible refine (c1).mono ?_); rintro e w1 ⟨rfl, rfl⟩))
            go_returns
            exact ⟨by rw [hw.out, h3.out trivial]; rfl, rfl⟩
        · obtain rfl : k = s.size := by omega
          go_wp2_with fail
          go_returns
          exact ⟨by rw [hw.out]; rw [allW_full] at hK; rw [hK.out]; rfl, rfl⟩
    · have hw : word01 s fi = false := by unfold word01; rw [hf, decide_eq_false hc]; simp
      have d3 : (clsB ((s[0]'h0).toNat : Int) != fi) = true := by simpa using hc
      replace hw := Lib.hid hw
      clear hc hf hr
      generalize clsB ((s[0]'h0).toNat : Int) = q at *
      go_enter Try.func72, Try.ntmps72
      go_wp2_with (go_at_call 87; ((with_reducible refine (c0).mono ?_); rintro e w1 ⟨rfl, rfl⟩))
      go_returns
      exact ⟨by rw [hw.out]; rfl, rfl⟩
  · have hw : word01 s fi = false := by unfold word01; rw [decide_eq_false (by omega)]; rfl
    replace hw := Lib.hid hw
    by_cases h0 : s.size < 1
    · have d1 : decide ((s.size : Int) < 1) = true := by simp; omega
      go_enter Try.func72, Try.ntmps72
      go_wp2_with fail
      go_returns
      exact ⟨by rw [hw.out]; rfl, rfl⟩
    · have d1 : decide ((s.size : Int) < 1) = false := by simp; omega
      have d2 : decide ((12 : Int) < s.size) = true := by simp; omega
      clear h1 h0
      go_enter Try.func72, Try.ntmps72
      go_wp2_with fail
      go_returns
      exact ⟨by rw [hw.out]; rfl, rfl⟩

end Go.Proofs.Ytpblhonnknmjjaa

/- ConOk of both. -/
namespace Go.Proofs.Ytpblhonnknmjjaa
open Go.RowKit
set_option linter.unusedVariables false
set_option linter.unusedSimpArgs false
attribute [local go_sem] Ext.cell

def conOk (s : ByteArray) : Bool := wordOk s && upB (firstB s)

set_option maxHeartbeats 1000000 in
theorem ConOk_c (s : ByteArray) (hs : StrOk s) (w : World) : Calls Try.prog 86 #[.string s] w fun e w' => e = .returned (.bool (conOk s)) ∧ w = w' := by
  have c1 := wordOk_c s hs w
  unfold StrOk at hs
  cases hw : wordOk s with
  | false =>
    rw [hw] at c1
    replace hw := Lib.hid hw
    go_enter Try.func86, Try.ntmps86
    go_wp2_with (go_at_call 92; ((with_reducible refine (c1).mono ?_); rintro e w1 ⟨rfl, rfl⟩))
    go_returns
    exact ⟨by unfold conOk; rw [hw.out]; rfl, rfl⟩
  | true =>
    rw [hw] at c1
    have h0 : 0 < s.size := by unfold wordOk at hw; simp at hw; omega
    have h0' : (0 : Int) < s.size := by omega
    have hf : firstB s = (s[0]'h0).toNat := by unfold firstB; rw [dif_pos h0]
    replace hw := Lib.hid hw
    replace hf := Lib.hid hf
    go_enter Try.func86, Try.ntmps86
    go_wp2_with (first | (go_at_call 92; ((with_reducible refine (c1).mono ?_); rintro e w1 ⟨rfl, rfl⟩)) | (go_at_call 78; ((with_reducible refine (isUpper_c _ _).mono ?_); rintro e w1 ⟨rfl, rfl⟩)))
    go_returns
    exact ⟨by unfold conOk; rw [hw.out, hf.out]; rfl, rfl⟩

theorem word01_two (s : ByteArray) : word01 s 2 = conOk s := by
  unfold word01 conOk wordOk
  rw [clsB_two]
  cases decide (1 ≤ (s.size : Int) ∧ (s.size : Int) ≤ 12) <;> cases upB (firstB s) <;> cases allW s.data.toList <;> rfl

theorem specConOk_c (s : ByteArray) (hs : StrOk s) (w : World) : Calls Try.prog 47 #[.string s] w fun e w' => e = .returned (.bool (conOk s)) ∧ w = w' := by
  rw [← word01_two]
  go_enter Try.func47, Try.ntmps47
  go_wp2_with (go_at_call 72; ((with_reducible refine (l01Word_c s 2 hs _).mono ?_); rintro e w1 ⟨rfl, rfl⟩))
  go_returns
  exact ⟨rfl, rfl⟩

end Go.Proofs.Ytpblhonnknmjjaa

/- How many children a constructor may have: the program's test and the reference's. -/
namespace Go.Proofs.Ytpblhonnknmjjaa
open Go.RowKit
set_option linter.unusedVariables false
set_option linter.unusedSimpArgs false
attribute [local go_sem] Ext.cell

def sTrue : List UInt8 := [116, 114, 117, 101]
def sFalse : List UInt8 := [102, 97, 108, 115, 101]
def sNil : List UInt8 := [91, 93]
def sCons : List UInt8 := [58, 58]
def conShape (s : ByteArray) (k : Int) (pair : Bool) : Bool :=
  if (s.toList == sTrue || s.toList == sFalse || s.toList == sNil) = true then k == 0
  else if (s.toList == sCons) = true then (k == 1) && pair
  else conOk s && decide (k ≤ 1)

set_option maxHeartbeats 1000000 in
theorem conShape_c (s : ByteArray) (k : Int) (pair : Bool) (hs : StrOk s) (w : World) : Calls Try.prog 71 #[.string s, .int .i64 k, .bool pair] w fun e w' => e = .returned (.bool (conShape s k pair)) ∧ w = w' := by
  have c1 := ConOk_c s hs w
  unfold conShape
  cases e1 : (s.toList == sTrue) <;> cases e2 : (s.toList == sFalse) <;> cases e3 : (s.toList == sNil) <;> cases e4 : (s.toList == sCons)
  case false.false.false.false =>
    generalize conOk s = c at *
    unfold sTrue sFalse sNil sCons at *
    cases c
    all_goals
      go_enter Try.func71, Try.ntmps71
      go_wp2_with (go_at_call 86; ((with_reducible refine (c1).mono ?_); rintro e w1 ⟨rfl, rfl⟩))
      go_returns
      exact ⟨rfl, rfl⟩
  all_goals
    clear c1
    unfold sTrue sFalse sNil sCons at *
    cases e5 : (k == 1)
  all_goals
    go_enter Try.func71, Try.ntmps71
    go_wp2_with fail
    go_returns
    exact ⟨rfl, rfl⟩

set_option maxHeartbeats 1000000 in
theorem l04ConOk_c (s : ByteArray) (k : Int) (pair : Bool) (hs : StrOk s) (w : World) : Calls Try.prog 24 #[.string s, .int .i64 k, .bool pair] w fun e w' => e = .returned (.bool (conShape s k pair)) ∧ w = w' := by
  have c1 := specConOk_c s hs w
  have x1 : (s.toList == sCons) = true → (s.toList == sTrue) = false ∧ (s.toList == sFalse) = false ∧ (s.toList == sNil) = false := by
    intro h
    rw [eq_of_beq h]
    decide
  unfold conShape
  cases e4 : (s.toList == sCons)
  · clear x1
    cases e1 : (s.toList == sTrue) <;> cases e2 : (s.toList == sFalse) <;> cases e3 : (s.toList == sNil)
    case false.false.false =>
      generalize conOk s = c at *
      unfold sTrue sFalse sNil sCons at *
      cases c
      all_goals
        go_enter Try.func24, Try.ntmps24
        go_wp2_with (go_at_call 47; ((with_reducible refine (c1).mono ?_); rintro e w1 ⟨rfl, rfl⟩))
        go_returns
        exact ⟨rfl, rfl⟩
    all_goals
      clear c1
      unfold sTrue sFalse sNil sCons at *
      go_enter Try.func24, Try.ntmps24
      go_wp2_with fail
      go_returns
      exact ⟨rfl, rfl⟩
  · obtain ⟨e1, e2, e3⟩ := x1 e4
    rw [e1, e2, e3]
    clear x1 c1
    unfold sTrue sFalse sNil sCons at *
    cases e5 : (k == 1)
    all_goals
      go_enter Try.func24, Try.ntmps24
      go_wp2_with fail
      go_returns
      exact ⟨rfl, rfl⟩

end Go.Proofs.Ytpblhonnknmjjaa

/- A value's node: when it is right; the program's test. -/
namespace Go.Proofs.Ytpblhonnknmjjaa
open Go.RowKit
set_option linter.unusedVariables false
set_option linter.unusedSimpArgs false
attribute [local go_sem] Ext.cell

def kindAt (l : List GDNode) (k : Int) : Int := if 0 ≤ k then (l[k.toNat]?.map (·.kind)).getD 0 else 0
def pairOf (l : List GDNode) (ks : List Int) : Bool := match ks with
  | [k] => kindAt l k == 5
  | _ => false
def nodeOk (l : List GDNode) (x : GDNode) : Bool :=
  if x.kind = 3 then ((x.kids.length : Int) == 0) && (x.s.toList.isEmpty && decide (-4611686018427387904 ≤ x.n ∧ x.n ≤ 4611686018427387903))
  else if x.kind = 2 then ((x.kids.length : Int) == 0) && (x.n == 0)
  else if x.kind = 6 then ((x.kids.length : Int) == 0) && ((x.n == 0) && x.s.toList.isEmpty)
  else if x.kind = 5 then ((x.kids.length : Int) == 2) && ((x.n == 0) && x.s.toList.isEmpty)
  else if x.kind = 4 then (x.n == 0) && conShape x.s x.kids.length (pairOf l x.kids)
  else false

set_option maxRecDepth 100000 in
set_option maxHeartbeats 4000000 in
theorem dataNodeOk_flat (kd nn : Int) (s : ByteArray) (ka da : Option Addr) (m kc dn dc : Nat) (w : World) (hk : kd ≠ 4) (hm : m ≤ 9223372036854775807) (l : List GDNode) (ks : List Int) (hl : ks.length = m) :
    Calls Try.prog 46 #[.agg #[.slice da dn dc], .agg #[.int .i64 kd, .int .i64 nn, .string s, .slice ka m kc]] w fun e w' => e = .returned (.bool (nodeOk l ⟨kd, nn, s, ks⟩)) ∧ Below w.heap.size w w' := by
  unfold nodeOk
  dsimp only
  rw [hl, if_neg hk]
  clear hl
  by_cases h3 : kd = 3
  · subst h3
    cases e0 : ((m : Int) == 0) <;> cases e1 : s.toList.isEmpty
    all_goals
      go_enter Try.func46, Try.ntmps46
      go_wp2_with (go_at_call 41; ((with_reducible refine (within_c _ _ _ _).mono ?_); rintro e w1 ⟨rfl, rfl⟩))
      go_returns
      exact ⟨by simp, by go_grown⟩
  by_cases h2 : kd = 2
  · subst h2
    cases e0 : ((m : Int) == 0) <;> cases e1 : (nn == 0)
    all_goals
      go_enter Try.func46, Try.ntmps46
      go_wp2_with fail
      go_returns
      exact ⟨by simp, by go_grown⟩
  by_cases h6 : kd = 6
  · subst h6
    cases e0 : ((m : Int) == 0) <;> cases e1 : (nn == 0) <;> cases e2 : s.toList.isEmpty
    all_goals
      go_enter Try.func46, Try.ntmps46
      go_wp2_with fail
      go_returns
      exact ⟨by simp, by go_grown⟩
  by_cases h5 : kd = 5
  · subst h5
    cases e0 : ((m : Int) == 2) <;> cases e1 : (nn == 0) <;> cases e2 : s.toList.isEmpty
    all_goals
      go_enter Try.func46, Try.ntmps46
      go_wp2_with fail
      go_returns
      exact ⟨by simp, by go_grown⟩
  rw [if_neg h3, if_neg h2, if_neg h6, if_neg h5]
  have e3 : (kd == 3) = false := by simpa using h3
  have e2 : (kd == 2) = false := by simpa using h2
  have e6 : (kd == 6) = false := by simpa using h6
  have e5 : (kd == 5) = false := by simpa using h5
  have e4 : (kd == 4) = false := by simpa using hk
  clear h3 h2 h6 h5 hk
  go_enter Try.func46, Try.ntmps46
  go_wp2_with fail
  go_returns
  exact ⟨rfl, by go_grown⟩

set_option maxRecDepth 100000 in
set_option maxHeartbeats 4000000 in
theorem dataNodeOk_con (x : GDNode) (hx4 : x.kind = 4) (hs : StrOk x.s) (d : GData) (hd : d.nodes.length ≤ 1152921504606846976) (r1 r2 : List Value) (lo1 lo2 : Nat) (w : World) (hr1 : GData.R lo1 w r1 d) (hr2 : GDNode.R lo2 w r2 x)
    (hin : ∀ k, x.kids = [k] → 0 ≤ k ∧ k < d.nodes.length) :
    Calls Try.prog 46 #[.agg r1.toArray, .agg r2.toArray] w fun e w' => e = .returned (.bool (nodeOk d.nodes x)) ∧ Below w.heap.size w w' := by
  obtain ⟨kd, nn, s, ks⟩ := x
  dsimp only at hx4
  subst hx4
  unfold nodeOk
  dsimp only at *
  rw [if_neg (by decide), if_neg (by decide), if_neg (by decide), if_neg (by decide), if_pos rfl]
  obtain ⟨u0, rfl, -, a0⟩ := hr1
  obtain ⟨v0, rfl, -, b0⟩ := hr2
  obtain ⟨da, dc, rfl, dl, dm, a0⟩ := a0
  obtain ⟨ka, kc, rfl, kl, km, b0⟩ := b0
  dsimp only at *
  by_cases hn : nn = 0
  · subst hn
    by_cases h1 : ks.length = 1
    · obtain ⟨k, rfl⟩ : ∃ k, ks = [k] := List.length_eq_one_iff.1 h1
      obtain ⟨hk0, hk1⟩ := hin k rfl
      obtain ⟨j, rfl⟩ : ∃ j : Nat, k = j := ⟨k.toNat, by omega⟩
      obtain ⟨b1, o1, k', s1, _, rfl, P1, ⟨rfl, -⟩, q1⟩ := b0.get (k := 0) (Lib.hid rfl) (by simp)
      obtain rfl : (j : Int) = k' := by have := P1.out; simpa using this
      obtain ⟨b2, o2, y, s2, _, rfl, P2, hy, q2⟩ := a0.get (k := j) (Lib.hid rfl) (by omega)
      obtain ⟨y0, rfl, -, -⟩ := hy
      have e1 : w.cell? ⟨b1, o1, none⟩ = some (.int .i64 j) := by simpa using q1 0 _ rfl
      have e2 : w.cell? ⟨b2, o2 + j * 4, none⟩ = some (.int .i64 y.kind) := by simpa using q2 0 _ rfl
      have hp : pairOf d.nodes [(j : Int)] = (y.kind == 5) := by unfold pairOf kindAt; simp [P2.out]
      rw [hp]
      have hj : j < d.nodes.length := by omega
      clear hp hin hk0 hk1 h1 a0 b0 q1 q2 P1 P2
      show Calls Try.prog 46 #[.agg #[.slice (some ⟨b2, o2, none⟩) d.nodes.length dc], .agg #[.int .i64 4, .int .i64 0, .string s, .slice (some ⟨b1, o1, none⟩) 1 kc]] w fun e w' => e = .returned (.bool (conShape s 1 (y.kind == 5))) ∧ Below w.heap.size w w'
      have hc := fun W => conShape_c s 1 (y.kind == 5) hs W
      generalize d.nodes.length = n at *
      generalize y.kind = yk at *
      generalize conShape s 1 (yk == 5) = cs at *
      go_enter Try.func46, Try.ntmps46
      go_upto_region 1 with fail
      have D : RowAt (w.alloc (.cells #[.slice (some ⟨b2, o2, none⟩) n dc] 25)) (w.heap.size) 0 [.slice (some ⟨b2, o2, none⟩) n dc] := RowAt.box w #[.slice (some ⟨b2, o2, none⟩) n dc] 25
      have D := D.below (show Below (w.alloc (.cells #[.slice (some ⟨b2, o2, none⟩) n dc] 25)).heap.size (w.alloc (.cells #[.slice (some ⟨b2, o2, none⟩) n dc] 25)) ((w.alloc (.cells #[.slice (some ⟨b2, o2, none⟩) n dc] 25)).alloc (.cells #[.int .i64 4, .int .i64 0, .string s, .slice (some ⟨b1, o1, none⟩) 1 kc] 44)) by go_grown)
      have N : RowAt ((w.alloc (.cells #[.slice (some ⟨b2, o2, none⟩) n dc] 25)).alloc (.cells #[.int .i64 4, .int .i64 0, .string s, .slice (some ⟨b1, o1, none⟩) 1 kc] 44)) (w.heap.size + 1) 0 [.int .i64 4, .int .i64 0, .string s, .slice (some ⟨b1, o1, none⟩) 1 kc] := by have h := RowAt.box (w.alloc (.cells #[.slice (some ⟨b2, o2, none⟩) n dc] 25)) #[.int .i64 4, .int .i64 0, .string s, .slice (some ⟨b1, o1, none⟩) 1 kc] 44; simp only [World.size_alloc] at h; exact h
      have hw : Below w.heap.size w ((w.alloc (.cells #[.slice (some ⟨b2, o2, none⟩) n dc] 25)).alloc (.cells #[.int .i64 4, .int .i64 0, .string s, .slice (some ⟨b1, o1, none⟩) 1 kc] 44)) := by go_grown
      generalize ((w.alloc (.cells #[.slice (some ⟨b2, o2, none⟩) n dc] 25)).alloc (.cells #[.int .i64 4, .int .i64 0, .string s, .slice (some ⟨b1, o1, none⟩) 1 kc] 44)) = w0 at *
      have e1' := cell_below hw e1
      have e2' := cell_below hw e2
      have hb1' := World.block_lt_of_cell? _ _ e1'
      have hb2' := World.block_lt_of_cell? _ _ e2'
      dsimp only at hb1' hb2'
      clear e1 e2
      have d_0 := D.box1; have hsD := World.block_lt_of_cell? _ _ d_0; dsimp only at hsD; obtain ⟨n_0, n_1, n_2, n_3⟩ := N.box4; have hsN := World.block_lt_of_cell? _ _ n_0; dsimp only at hsN
      go_upto_region 12 with fail
      (refine wp_region_ext_lit (by kernel_rfl) (by kernel_rfl) ?_; (repeat (any_goals (first | go_big_quiet_step ((first | (go_at_call 71; exact Calls.ext_same (hc _)))) | quiet_step ((first | (go_at_call 71; exact Calls.ext_same (hc _)))) | (refine wpQuiet_step (fun K hK => ?_); go_simp; split <;> (refine hK _ ?_; clear hK K))))); all_goals (refine wpQuiet_nil ?_; rintro w1 ⟨⟨w2, hb⟩, rfl⟩; have hw := hw.trans (hb.mono hw.size); have D := D.below hb; have d_0 := D.box1; have hsD := World.block_lt_of_cell? _ _ d_0; dsimp only at hsD; have N := N.below hb; obtain ⟨n_0, n_1, n_2, n_3⟩ := N.box4; have hsN := World.block_lt_of_cell? _ _ n_0; dsimp only at hsN; clear hb))
      all_goals go_wp2
      all_goals go_returns
      all_goals exact ⟨rfl, hw⟩
    · have hp : pairOf d.nodes ks = false := by
        unfold pairOf
        match ks, h1 with
        | [], _ => rfl
        | [a], h => exact absurd rfl h
        | a :: b :: c, _ => rfl
      rw [hp]
      show Calls Try.prog 46 #[.agg #[.slice da d.nodes.length dc], .agg #[.int .i64 4, .int .i64 0, .string s, .slice ka ks.length kc]] w fun e w' => e = .returned (.bool (conShape s ks.length false)) ∧ Below w.heap.size w w'
      have hc := fun W => conShape_c s ks.length false hs W
      generalize d.nodes.length = n at *
      have e1 : ((ks.length : Int) == 1) = false := by simp; omega
      clear hp hin h1 a0 b0
      generalize ks.length = m at *
      generalize conShape s m false = cs at *
      go_enter Try.func46, Try.ntmps46
      go_upto_region 1 with fail
      have D : RowAt (w.alloc (.cells #[.slice da n dc] 25)) (w.heap.size) 0 [.slice da n dc] := RowAt.box w #[.slice da n dc] 25
      have D := D.below (show Below (w.alloc (.cells #[.slice da n dc] 25)).heap.size (w.alloc (.cells #[.slice da n dc] 25)) ((w.alloc (.cells #[.slice da n dc] 25)).alloc (.cells #[.int .i64 4, .int .i64 0, .string s, .slice ka m kc] 44)) by go_grown)
      have N : RowAt ((w.alloc (.cells #[.slice da n dc] 25)).alloc (.cells #[.int .i64 4, .int .i64 0, .string s, .slice ka m kc] 44)) (w.heap.size + 1) 0 [.int .i64 4, .int .i64 0, .string s, .slice ka m kc] := by have h := RowAt.box (w.alloc (.cells #[.slice da n dc] 25)) #[.int .i64 4, .int .i64 0, .string s, .slice ka m kc] 44; simp only [World.size_alloc] at h; exact h
      have hw : Below w.heap.size w ((w.alloc (.cells #[.slice da n dc] 25)).alloc (.cells #[.int .i64 4, .int .i64 0, .string s, .slice ka m kc] 44)) := by go_grown
      generalize ((w.alloc (.cells #[.slice da n dc] 25)).alloc (.cells #[.int .i64 4, .int .i64 0, .string s, .slice ka m kc] 44)) = w0 at *
      have d_0 := D.box1; have hsD := World.block_lt_of_cell? _ _ d_0; dsimp only at hsD; obtain ⟨n_0, n_1, n_2, n_3⟩ := N.box4; have hsN := World.block_lt_of_cell? _ _ n_0; dsimp only at hsN
      go_upto_region 12 with fail
      (refine wp_region_ext_lit (by kernel_rfl) (by kernel_rfl) ?_; (repeat (any_goals (first | go_big_quiet_step ((first | (go_at_call 71; exact Calls.ext_same (hc _)))) | quiet_step ((first | (go_at_call 71; exact Calls.ext_same (hc _)))) | (refine wpQuiet_step (fun K hK => ?_); go_simp; split <;> (refine hK _ ?_; clear hK K))))); all_goals (refine wpQuiet_nil ?_; rintro w1 ⟨⟨w2, hb⟩, rfl⟩; have hw := hw.trans (hb.mono hw.size); have D := D.below hb; have d_0 := D.box1; have hsD := World.block_lt_of_cell? _ _ d_0; dsimp only at hsD; have N := N.below hb; obtain ⟨n_0, n_1, n_2, n_3⟩ := N.box4; have hsN := World.block_lt_of_cell? _ _ n_0; dsimp only at hsN; clear hb))
      all_goals go_wp2
      all_goals go_returns
      all_goals exact ⟨rfl, hw⟩
  · have en : (nn == 0) = false := by simpa using hn
    rw [en]
    show Calls Try.prog 46 #[.agg #[.slice da d.nodes.length dc], .agg #[.int .i64 4, .int .i64 nn, .string s, .slice ka ks.length kc]] w fun e w' => e = .returned (.bool false) ∧ Below w.heap.size w w'
    generalize d.nodes.length = n at *
    clear hin hn a0 b0
    generalize ks.length = m at *
    go_enter Try.func46, Try.ntmps46
    go_upto_region 1 with fail
    have D : RowAt (w.alloc (.cells #[.slice da n dc] 25)) (w.heap.size) 0 [.slice da n dc] := RowAt.box w #[.slice da n dc] 25
    have D := D.below (show Below (w.alloc (.cells #[.slice da n dc] 25)).heap.size (w.alloc (.cells #[.slice da n dc] 25)) ((w.alloc (.cells #[.slice da n dc] 25)).alloc (.cells #[.int .i64 4, .int .i64 nn, .string s, .slice ka m kc] 44)) by go_grown)
    have N : RowAt ((w.alloc (.cells #[.slice da n dc] 25)).alloc (.cells #[.int .i64 4, .int .i64 nn, .string s, .slice ka m kc] 44)) (w.heap.size + 1) 0 [.int .i64 4, .int .i64 nn, .string s, .slice ka m kc] := by have h := RowAt.box (w.alloc (.cells #[.slice da n dc] 25)) #[.int .i64 4, .int .i64 nn, .string s, .slice ka m kc] 44; simp only [World.size_alloc] at h; exact h
    have hw : Below w.heap.size w ((w.alloc (.cells #[.slice da n dc] 25)).alloc (.cells #[.int .i64 4, .int .i64 nn, .string s, .slice ka m kc] 44)) := by go_grown
    generalize ((w.alloc (.cells #[.slice da n dc] 25)).alloc (.cells #[.int .i64 4, .int .i64 nn, .string s, .slice ka m kc] 44)) = w0 at *
    have d_0 := D.box1; have hsD := World.block_lt_of_cell? _ _ d_0; dsimp only at hsD; obtain ⟨n_0, n_1, n_2, n_3⟩ := N.box4; have hsN := World.block_lt_of_cell? _ _ n_0; dsimp only at hsN
    go_upto_region 12 with fail
    (refine wp_region_ext_lit (by kernel_rfl) (by kernel_rfl) ?_; (repeat (any_goals (first | go_big_quiet_step ((first | fail)) | quiet_step ((first | fail)) | (refine wpQuiet_step (fun K hK => ?_); go_simp; split <;> (refine hK _ ?_; clear hK K))))); all_goals (refine wpQuiet_nil ?_; rintro w1 ⟨⟨w2, hb⟩, rfl⟩; have hw := hw.trans (hb.mono hw.size); have D := D.below hb; have d_0 := D.box1; have hsD := World.block_lt_of_cell? _ _ d_0; dsimp only at hsD; have N := N.below hb; obtain ⟨n_0, n_1, n_2, n_3⟩ := N.box4; have hsN := World.block_lt_of_cell? _ _ n_0; dsimp only at hsN; clear hb))
    all_goals go_wp2
    all_goals go_returns
    all_goals exact ⟨rfl, hw⟩

theorem dataNodeOk_c (x : GDNode) (hs : StrOk x.s) (d : GData) (hd : d.nodes.length ≤ 1152921504606846976) (r1 r2 : List Value) (lo1 lo2 : Nat) (w : World) (hr1 : GData.R lo1 w r1 d) (hr2 : GDNode.R lo2 w r2 x)
    (hin : ∀ k ∈ x.kids, 0 ≤ k ∧ k < d.nodes.length) :
    Calls Try.prog 46 #[.agg r1.toArray, .agg r2.toArray] w fun e w' => e = .returned (.bool (nodeOk d.nodes x)) ∧ Below w.heap.size w w' := by
  by_cases h4 : x.kind = 4
  · exact dataNodeOk_con x h4 hs d hd r1 r2 lo1 lo2 w hr1 hr2 fun k h => hin k (by rw [h]; simp)
  · obtain ⟨u0, rfl, -, a0⟩ := hr1
    obtain ⟨v0, rfl, -, b0⟩ := hr2
    obtain ⟨da, dc, rfl, dl, dm, a0⟩ := a0
    obtain ⟨ka, kc, rfl, kl, km, b0⟩ := b0
    exact dataNodeOk_flat x.kind x.n x.s ka da x.kids.length kc d.nodes.length dc w h4 (by omega) d.nodes x.kids rfl

end Go.Proofs.Ytpblhonnknmjjaa

/- What an index search hands back. -/
namespace Go.Proofs.Ytpblhonnknmjjaa
open Go.RowKit

def IdxPost {α : Type} (p : α → Bool) (xs : List α) (w : World) (e : Ending) (w' : World) : Prop :=
  ∃ n : Int, e = .returned (.int .i64 n) ∧ decide (0 ≤ n) = xs.any p ∧ Below w.heap.size w w'

end Go.Proofs.Ytpblhonnknmjjaa

/- slices.ContainsFunc over []impl.DNode, with a closure that answers for each element and may make memory. -/
namespace Go.Proofs.Ytpblhonnknmjjaa
open Go.RowKit
set_option linter.unusedVariables false
set_option linter.unusedSimpArgs false
attribute [local go_sem] Ext.cell

set_option maxRecDepth 100000 in
set_option maxHeartbeats 4000000 in
theorem indexFuncDNode_c (xs : List GDNode) (p : GDNode → Bool) (g : Nat) (lb : Array Value) (lo : Nat) (u : Value) (w : World) (hu : Sl GDNode.R 4 lo w u xs)
    (hp : ∀ (i : Nat) x r W, xs[i]? = some x → Below w.heap.size w W → GDNode.R lo W r x → Calls Try.prog g (#[.agg r.toArray] ++ lb) W fun e w' => e = .returned (.bool (p x)) ∧ Below W.heap.size W w') (eg : ∀ args w, (callFunc g args).run Try.prog w = .ok (.enter g args) w) :
    Calls Try.prog 70 #[u, .func (.func g) #[] lb] w (IdxPost p xs w) := by
  obtain ⟨ua, uc, rfl, ul, um, h0⟩ := hu
  replace hp := Lib.hid hp
  replace h0 := Lib.hid h0
  obtain ⟨m, hm⟩ : ∃ m, m = xs.length := ⟨_, rfl⟩
  rw [← hm] at ul ⊢
  replace hm := Lib.hid hm
  go_enter Try.func70, Try.ntmps70
  go_wp2_with fail
  go_loopw [8] (fun i wr => ∃ k : Nat, k ≤ m ∧ i = .int .i64 k ∧ Below w.heap.size w wr ∧ Hid (∀ y ∈ xs.take k, p y = false)) (fun i _ => m - (intOf i).toNat)
  case atStart => exact ⟨0, by omega, rfl, Below.refl _ _, fun y hy => by simp at hy⟩
  case round =>
    obtain ⟨k, hk, rfl, hw, hF⟩ := hrel
    by_cases hlt : k < m
    · obtain ⟨b1, o1, x, r, _, rfl, P1, hx, r1⟩ := (h0.out.below GDNode.good hw).get hm hlt
      have hc := hp.out k x r wr P1.out hw hx
      obtain ⟨u0, rfl, hxf⟩ := id hx
      obtain ⟨e_0, e_1, e_2, e_3⟩ := r1.cells4
      clear r1 hx hxf
      replace P1 := P1
      generalize hq : p x = q at hc
      replace hq := Lib.hid hq
      cases q with
      | true =>
        go_wp2_with (go_at_fn g; refine hc.mono ?_; rintro e w1 ⟨rfl, hb⟩)
        go_returns
        exact ⟨k, rfl, by
          have : xs.any p = true := List.any_eq_true.2 ⟨x, List.mem_of_getElem? P1.out, hq.out⟩
          rw [this]; simp, hw.trans (hb.mono hw.size)⟩
      | false =>
        go_wp2_with (go_at_fn g; refine hc.mono ?_; rintro e w1 ⟨rfl, hb⟩)
        go_roundw
        case rel => exact ⟨k + 1, by omega, by go_num, hw.trans (hb.mono hw.size), by
          show ∀ y ∈ xs.take (k + 1), p y = false
          rw [take_snoc' P1.out]
          intro y hy
          rcases List.mem_append.1 hy with h | h
          · exact hF.out y h
          · simp at h; subst h; exact hq.out⟩
        case measure => simp [intOf]; omega
    · obtain rfl : k = m := by omega
      go_wp2_with fail
      go_returns
      exact ⟨-1, rfl, by
        have hF := hF.out
        rw [take_full hm] at hF
        have : xs.any p = false := List.any_eq_false.2 fun y hy => by rw [hF y hy]; simp
        rw [this]; simp, hw⟩

theorem containsFuncDNode_c (xs : List GDNode) (p : GDNode → Bool) (g : Nat) (lb : Array Value) (lo : Nat) (u : Value) (w : World) (hu : Sl GDNode.R 4 lo w u xs)
    (hp : ∀ (i : Nat) x r W, xs[i]? = some x → Below w.heap.size w W → GDNode.R lo W r x → Calls Try.prog g (#[.agg r.toArray] ++ lb) W fun e w' => e = .returned (.bool (p x)) ∧ Below W.heap.size W w') (eg : ∀ args w, (callFunc g args).run Try.prog w = .ok (.enter g args) w) :
    Calls Try.prog 44 #[u, .func (.func g) #[] lb] w fun e w' => e = .returned (.bool (xs.any p)) ∧ Below w.heap.size w w' := by
  have hc := indexFuncDNode_c xs p g lb lo u w hu hp eg
  replace hc : Calls Try.prog 70 #[u, .func (.func g) #[] lb] w fun e w' => ∃ n : Int, e = .returned (.int .i64 n) ∧ decide (0 ≤ n) = xs.any p ∧ Below w.heap.size w w' := hc
  clear hp
  generalize xs.any p = q at *
  obtain ⟨ua, uc, rfl⟩ := hu.form
  clear hu
  go_enter Try.func44, Try.ntmps44
  go_wp2_with (go_at_call 70; refine hc.mono ?_; rintro e w1 ⟨n, rfl, hn, hb⟩)
  go_returns
  exact ⟨rfl, hb⟩

end Go.Proofs.Ytpblhonnknmjjaa

/- The walks of the eq functions: two values are equal as data. Printed by gen_helpers.py. -/
namespace Go.Proofs.Ytpblhonnknmjjaa
open Go.RowKit
set_option linter.unusedVariables false
set_option linter.unusedSimpArgs false
attribute [local go_sem] Ext.cell


set_option maxHeartbeats 1000000 in
theorem eqIntS_c (x y : List Int) (u v : Value) (lo lo' : Nat) (w : World) (hx : Sl IntR 1 lo w u x) (hy : Sl IntR 1 lo' w v y) :
    Calls Try.prog 85 #[u, v] w fun e w' => e = .returned (.bool (decide (x = y))) ∧ Below w.heap.size w w' := by
  obtain ⟨a1, c1, rfl, l1, m1, h1⟩ := hx
  obtain ⟨a2, c2, rfl, l2, m2, h2⟩ := hy
  obtain ⟨n, hn⟩ : ∃ n, n = x.length := ⟨_, rfl⟩
  obtain ⟨m, hm⟩ : ∃ m, m = y.length := ⟨_, rfl⟩
  rw [← hn] at l1 ⊢
  rw [← hm] at l2 ⊢
  have X1 := Lib.hid hn; have X2 := Lib.hid hm
  clear hn hm
  by_cases hl : n = m
  · subst hl
    go_enter Try.func85, Try.ntmps85
    go_wp2_with fail
    go_loopw [5] (fun i wr => ∃ k : Nat, k ≤ n ∧ i = .int .i64 k ∧ Hid (x.take k = y.take k) ∧ Below w.heap.size w wr) (fun i _ => n - (intOf i).toNat)
    case atStart => exact ⟨0, by omega, rfl, rfl, Below.refl _ _⟩
    case round =>
      obtain ⟨k, hk, rfl, ht, hw⟩ := hrel
      by_cases hlt : k < n
      · obtain ⟨b1, o1, p, s1, _, rfl, P1, q1, r1⟩ := (h1.below IntR.good hw).get X1 hlt
        obtain ⟨b2, o2, q, s2, _, rfl, P2, q2, r2⟩ := (h2.below IntR.good hw).get X2 hlt
        obtain ⟨rfl, _⟩ := q1; obtain ⟨rfl, _⟩ := q2
        have R1 : ∀ z : Ext wr, z.val.cell? ⟨b1, o1 + k, none⟩ = some (.int .i64 p) := fun z => by simpa using (r1.ext z) 0 _ rfl
        have R2 : ∀ z : Ext wr, z.val.cell? ⟨b2, o2 + k, none⟩ = some (.int .i64 q) := fun z => by simpa using (r2.ext z) 0 _ rfl
        clear r1 r2
        go_wp2_with fail
        refine wp_region_ext_lit (by kernel_rfl) (by kernel_rfl) ?_
        repeat (go_big_quiet_step ((fail)))
        refine wpQuiet_nil ?_
        rintro _ ⟨⟨w2, hw2⟩, rfl⟩
        clear R1 R2
        have hw3 := hw.trans (hw2.mono hw.size)
        generalize hd : (p != q) = d
        have E := Lib.hid hd; clear hd
        cases d
        · have E := neq_of_int_false E.out
          have E := Lib.hid E
          go_wp2
          go_roundw
          case rel => exact ⟨k + 1, by omega, by go_num, by show _ = _; rw [take_snoc' P1.out, take_snoc' P2.out, ht.out, E.out], hw3⟩
          case measure => simp [intOf]; omega
        · have E := neq_of_int_true E.out
          have E := Lib.hid E
          go_wp2
          go_returns
          refine ⟨?_, hw3⟩
          have : x ≠ y := by
            rintro rfl
            exact E.out (Option.some.inj (P1.out.symm.trans P2.out))
          simp [this]
      · go_wp2
        go_returns
        refine ⟨?_, hw⟩
        obtain rfl : k = n := by omega
        have h1 : x = y := by
          have := ht.out
          rwa [take_full X1, take_full X2] at this
        simp [h1]
  · go_enter Try.func85, Try.ntmps85
    go_wp2
    go_returns
    refine ⟨?_, Below.refl _ _⟩
    have h1 : x ≠ y := by
      rintro rfl
      exact hl (X1.out.trans X2.out.symm)
    simp [h1]


set_option maxHeartbeats 1000000 in
theorem eqDNode_c (x y : GDNode) (r s : List Value) (lo lo' : Nat) (w : World) (hx : GDNode.R lo w r x) (hy : GDNode.R lo' w s y) :
    Calls Try.prog 65 #[.agg r.toArray, .agg s.toArray] w fun e w' => e = .returned (.bool (decide (x = y))) ∧ Below w.heap.size w w' := by
  obtain ⟨x0, x1, x2, x3⟩ := x
  obtain ⟨y0, y1, y2, y3⟩ := y
  obtain ⟨u0, rfl, ⟨wx0, wx1, wx2⟩, a0⟩ := hx
  obtain ⟨v0, rfl, ⟨wy0, wy1, wy2⟩, b0⟩ := hy
  dsimp only at *
  go_enter Try.func65, Try.ntmps65
  go_wp2_with (first | (go_at_call 85; ((with_reducible refine (eqIntS_c x3 y3 u0 v0 lo lo' _ ?_ ?_).mono ?_); exact a0.below IntR.good (by go_grown); exact b0.below IntR.good (by go_grown); rintro e w1 ⟨rfl, hb⟩; have hw : Below w.heap.size w w1 := Below.trans (by go_grown) (hb.mono (by go_grown)); obtain ⟨hc, hf⟩ := bcell hb; have hz := hw.size; have hz1 := hb.size; have hs0 : w.heap.size < w1.heap.size := (by have h := hz1; (try simp only [World.size_alloc, World.size_setCell, World.size_drew] at h); omega); have hs1 : w.heap.size + 1 < w1.heap.size := (by have h := hz1; (try simp only [World.size_alloc, World.size_setCell, World.size_drew] at h); omega); clear hb)))
  all_goals (go_returns; refine ⟨?_, by go_grown⟩; (try clear hc hf); simp_all [toList_eq] <;> grind)


set_option maxHeartbeats 1000000 in
theorem eqDNodeS_c (x y : List GDNode) (u v : Value) (lo lo' : Nat) (w : World) (hx : Sl GDNode.R 4 lo w u x) (hy : Sl GDNode.R 4 lo' w v y) :
    Calls Try.prog 34 #[u, v] w fun e w' => e = .returned (.bool (decide (x = y))) ∧ Below w.heap.size w w' := by
  obtain ⟨a1, c1, rfl, l1, m1, h1⟩ := hx
  obtain ⟨a2, c2, rfl, l2, m2, h2⟩ := hy
  obtain ⟨n, hn⟩ : ∃ n, n = x.length := ⟨_, rfl⟩
  obtain ⟨m, hm⟩ : ∃ m, m = y.length := ⟨_, rfl⟩
  rw [← hn] at l1 ⊢
  rw [← hm] at l2 ⊢
  have X1 := Lib.hid hn; have X2 := Lib.hid hm
  clear hn hm
  by_cases hl : n = m
  · subst hl
    go_enter Try.func34, Try.ntmps34
    go_wp2_with fail
    go_loopw [5] (fun i wr => ∃ k : Nat, k ≤ n ∧ i = .int .i64 k ∧ Hid (x.take k = y.take k) ∧ Below w.heap.size w wr) (fun i _ => n - (intOf i).toNat)
    case atStart => exact ⟨0, by omega, rfl, rfl, Below.refl _ _⟩
    case round =>
      obtain ⟨k, hk, rfl, ht, hw⟩ := hrel
      by_cases hlt : k < n
      · obtain ⟨b1, o1, p, s1, _, rfl, P1, q1, r1⟩ := (h1.below GDNode.good hw).get X1 hlt
        obtain ⟨b2, o2, q, s2, _, rfl, P2, q2, r2⟩ := (h2.below GDNode.good hw).get X2 hlt
        have Q1 := q1; have Q2 := q2
        obtain ⟨s0, rfl, _⟩ := q1; obtain ⟨t0, rfl, _⟩ := q2
        have R1 : ∀ z : Ext wr, z.val.cell? ⟨b1, o1 + k * 4, none⟩ = some (.int .i64 p.kind) ∧ z.val.cell? ⟨b1, o1 + k * 4 + 1, none⟩ = some (.int .i64 p.n) ∧ z.val.cell? ⟨b1, o1 + k * 4 + 2, none⟩ = some (.string p.s) ∧ z.val.cell? ⟨b1, o1 + k * 4 + 3, none⟩ = some (s0) := fun z => ⟨by simpa using (r1.ext z) 0 _ rfl, by simpa using (r1.ext z) 1 _ rfl, by simpa using (r1.ext z) 2 _ rfl, by simpa using (r1.ext z) 3 _ rfl⟩
        have R2 : ∀ z : Ext wr, z.val.cell? ⟨b2, o2 + k * 4, none⟩ = some (.int .i64 q.kind) ∧ z.val.cell? ⟨b2, o2 + k * 4 + 1, none⟩ = some (.int .i64 q.n) ∧ z.val.cell? ⟨b2, o2 + k * 4 + 2, none⟩ = some (.string q.s) ∧ z.val.cell? ⟨b2, o2 + k * 4 + 3, none⟩ = some (t0) := fun z => ⟨by simpa using (r2.ext z) 0 _ rfl, by simpa using (r2.ext z) 1 _ rfl, by simpa using (r2.ext z) 2 _ rfl, by simpa using (r2.ext z) 3 _ rfl⟩
        clear r1 r2
        go_wp2_with fail
        refine wp_region_ext_lit (by kernel_rfl) (by kernel_rfl) ?_
        repeat (go_big_quiet_step (((go_at_call 65; exact Calls.ext (eqDNode_c p q _ _ _ _ _ (GDNode.good.below Q1 (Subtype.property _)) (GDNode.good.below Q2 (Subtype.property _)))))))
        refine wpQuiet_nil ?_
        rintro _ ⟨⟨w2, hw2⟩, rfl⟩
        clear R1 R2
        have hw3 := hw.trans (hw2.mono hw.size)
        generalize hd : (decide (p = q)) = d
        have E := Lib.hid hd; clear hd
        cases d
        · have E := neq_of_dec_false E.out
          have E := Lib.hid E
          go_wp2
          go_returns
          refine ⟨?_, hw3⟩
          have : x ≠ y := by
            rintro rfl
            exact E.out (Option.some.inj (P1.out.symm.trans P2.out))
          simp [this]
        · have E := neq_of_dec_true E.out
          have E := Lib.hid E
          go_wp2
          go_roundw
          case rel => exact ⟨k + 1, by omega, by go_num, by show _ = _; rw [take_snoc' P1.out, take_snoc' P2.out, ht.out, E.out], hw3⟩
          case measure => simp [intOf]; omega
      · go_wp2
        go_returns
        refine ⟨?_, hw⟩
        obtain rfl : k = n := by omega
        have h1 : x = y := by
          have := ht.out
          rwa [take_full X1, take_full X2] at this
        simp [h1]
  · go_enter Try.func34, Try.ntmps34
    go_wp2
    go_returns
    refine ⟨?_, Below.refl _ _⟩
    have h1 : x ≠ y := by
      rintro rfl
      exact hl (X1.out.trans X2.out.symm)
    simp [h1]


set_option maxHeartbeats 1000000 in
theorem eqData_c (x y : GData) (r s : List Value) (lo lo' : Nat) (w : World) (hx : GData.R lo w r x) (hy : GData.R lo' w s y) :
    Calls Try.prog 16 #[.agg r.toArray, .agg s.toArray] w fun e w' => e = .returned (.bool (decide (x = y))) ∧ Below w.heap.size w w' := by
  obtain ⟨x0⟩ := x
  obtain ⟨y0⟩ := y
  obtain ⟨u0, rfl, _, a0⟩ := hx
  obtain ⟨v0, rfl, _, b0⟩ := hy
  dsimp only at *
  go_enter Try.func16, Try.ntmps16
  go_wp2_with (first | (go_at_call 34; ((with_reducible refine (eqDNodeS_c x0 y0 u0 v0 lo lo' _ ?_ ?_).mono ?_); exact a0.below GDNode.good (by go_grown); exact b0.below GDNode.good (by go_grown); rintro e w1 ⟨rfl, hb⟩; have hw : Below w.heap.size w w1 := Below.trans (by go_grown) (hb.mono (by go_grown)); obtain ⟨hc, hf⟩ := bcell hb; have hz := hw.size; have hz1 := hb.size; have hs0 : w.heap.size < w1.heap.size := (by have h := hz1; (try simp only [World.size_alloc, World.size_setCell, World.size_drew] at h); omega); have hs1 : w.heap.size + 1 < w1.heap.size := (by have h := hz1; (try simp only [World.size_alloc, World.size_setCell, World.size_drew] at h); omega); clear hb)))
  all_goals (go_returns; refine ⟨?_, by go_grown⟩; (try clear hc hf); simp_all [toList_eq] <;> grind)


end Go.Proofs.Ytpblhonnknmjjaa

/- Where the value at a place ends: plain law, and the reference's walk. -/
namespace Go.Proofs.Ytpblhonnknmjjaa
open Go.RowKit
set_option linter.unusedVariables false
set_option linter.unusedSimpArgs false
attribute [local go_sem] Ext.cell

def kidsEnd (E : Nat → Int) : Int → List Int → Int
  | next, [] => next
  | next, k :: ks => if k ≠ next then -1 else if E k.toNat < 0 then -1 else kidsEnd E (E k.toNat) ks
def ends (l : List GDNode) : Nat → Nat → Int
  | 0, _ => -1
  | f + 1, i => match l[i]? with
    | none => -1
    | some n => kidsEnd (ends l f) (i + 1) n.kids

theorem kidsEnd_range {E : Nat → Int} {L : Int} (hE : ∀ k, 0 ≤ E k → (k : Int) + 1 ≤ E k ∧ E k ≤ L) : ∀ (ks : List Int) (nx : Int), 0 ≤ nx → nx ≤ L → 0 ≤ kidsEnd E nx ks → nx ≤ kidsEnd E nx ks ∧ kidsEnd E nx ks ≤ L
  | [], nx, h0, hL, h => ⟨Int.le_refl _, hL⟩
  | k :: ks, nx, h0, hL, h => by
    unfold kidsEnd at h ⊢
    split at h
    · omega
    · split at h
      · omega
      · rename_i h1 h2
        have e : k = nx := by omega
        have h3 := hE k.toNat (by omega)
        have h4 := kidsEnd_range hE ks (E k.toNat) (by omega) h3.2 h
        rw [if_neg h1, if_neg h2]
        omega
theorem ends_range (l : List GDNode) : ∀ (f i : Nat), 0 ≤ ends l f i → (i : Int) + 1 ≤ ends l f i ∧ ends l f i ≤ l.length
  | 0, i, h => by simp [ends] at h
  | f + 1, i, h => by
    unfold ends at h ⊢
    cases hi : l[i]? with
    | none => rw [hi] at h; simp at h
    | some n =>
      rw [hi] at h
      have hlt := (List.getElem?_eq_some_iff.1 hi).1
      exact kidsEnd_range (ends_range l f) n.kids (i + 1) (by omega) (by omega) h

end Go.Proofs.Ytpblhonnknmjjaa

/- The reference's l07End. -/
namespace Go.Proofs.Ytpblhonnknmjjaa
open Go.RowKit
set_option linter.unusedVariables false
set_option linter.unusedSimpArgs false
attribute [local go_sem] Ext.cell

theorem ends_out {l : List GDNode} {i : Nat} (h : l.length ≤ i) : ∀ f, ends l f i = -1
  | 0 => rfl
  | f + 1 => by unfold ends; rw [List.getElem?_eq_none h]

set_option maxRecDepth 100000 in
set_option maxHeartbeats 2000000 in
theorem l07End_out (x : GData) (i : Nat) (r : List Value) (lo : Nat) (w : World) (hx : GData.R lo w r x) (hi : x.nodes.length ≤ i) :
    Calls Try.prog 25 #[.agg r.toArray, .int .i64 i] w fun e w' => e = .returned (.int .i64 (-1)) ∧ Below w.heap.size w w' := by
  obtain ⟨u0, rfl, -, a0⟩ := hx
  obtain ⟨pa, pc, rfl⟩ := a0.form
  have d1 : decide ((x.nodes.length : Int) ≤ i) = true := decide_eq_true (by omega)
  clear a0
  go_enter Try.func25, Try.ntmps25
  go_wp2
  go_returns
  exact ⟨rfl, by go_grown⟩

end Go.Proofs.Ytpblhonnknmjjaa

/- The reference's l07End, in range. -/
namespace Go.Proofs.Ytpblhonnknmjjaa
open Go.RowKit
set_option linter.unusedVariables false
set_option linter.unusedSimpArgs false
attribute [local go_sem] Ext.cell

set_option maxRecDepth 100000 in
set_option maxHeartbeats 4000000 in
theorem l07End_c (x : GData) (hL : x.nodes.length ≤ 1152921504606846976) : ∀ (f i : Nat) (r : List Value) (lo : Nat) (w : World), GData.R lo w r x → x.nodes.length < i + f →
    Calls Try.prog 25 #[.agg r.toArray, .int .i64 i] w fun e w' => e = .returned (.int .i64 (ends x.nodes f i)) ∧ Below w.heap.size w w'
  | 0, i, r, lo, w, hx, hf => by rw [ends_out (by omega)]; exact l07End_out x i r lo w hx (by omega)
  | f + 1, i, r, lo, w, hx, hf => by
    have ih := l07End_c x hL f
    have Hx := hx
    obtain ⟨u0, rfl, -, a0⟩ := hx
    obtain ⟨pa, pc, rfl⟩ := a0.form
    by_cases hlt : i < x.nodes.length
    · have d1 : decide ((x.nodes.length : Int) ≤ i) = false := decide_eq_false (by omega)
      have d1' : decide (x.nodes.length ≤ i) = false := decide_eq_false (by omega)
      obtain ⟨pa', pc', he, -, -, h0⟩ := a0
      obtain ⟨rfl, rfl⟩ : pa' = pa ∧ pc' = pc := by injection he with a b c; exact ⟨a.symm, c.symm⟩
      obtain ⟨b1, o1, n, s1, _, rfl, P1, q1, r1⟩ := h0.get (Lib.hid rfl) hlt
      obtain ⟨kv, rfl, -, k0⟩ := q1
      obtain ⟨ka, kc, rfl, kl, km, k0⟩ := k0
      have hends : ends x.nodes (f + 1) i = kidsEnd (ends x.nodes f) (i + 1) n.kids := by conv => lhs; unfold ends; rw [P1.out]
      rw [hends]
      have R1 : w.cell? ⟨b1, o1 + i * 4 + 3, none⟩ = some (.slice ka n.kids.length kc) := by simpa using r1 3 _ rfl
      obtain ⟨m, hm⟩ : ∃ m, m = n.kids.length := ⟨_, rfl⟩
      rw [← hm] at kl R1
      have X1 := Lib.hid hm
      clear hm hends r1 h0
      replace ih := Lib.hid ih
      replace k0 := Lib.hid k0
      go_enter Try.func25, Try.ntmps25
      go_upto_region 1 with fail
      have B : RowAt (w.alloc (.cells #[.slice (some ⟨b1, o1, none⟩) x.nodes.length pc'] 25)) (w.heap.size) 0 [.slice (some ⟨b1, o1, none⟩) x.nodes.length pc'] := RowAt.box w #[.slice (some ⟨b1, o1, none⟩) x.nodes.length pc'] 25
      have hw : Below w.heap.size w (w.alloc (.cells #[.slice (some ⟨b1, o1, none⟩) x.nodes.length pc'] 25)) := by go_grown
      generalize (w.alloc (.cells #[.slice (some ⟨b1, o1, none⟩) x.nodes.length pc'] 25)) = w0 at *
      replace R1 := cell_below hw R1
      have hb0 := B.box1
      go_wp2_with fail
      go_loopw [5, 22] (fun nx ii wr => ∃ (j : Nat) (z : Nat), j ≤ m ∧ i + 1 ≤ z ∧ z ≤ x.nodes.length ∧ nx = .int .i64 z ∧ ii = .int .i64 j ∧ Hid (kidsEnd (ends x.nodes f) (i + 1) n.kids = kidsEnd (ends x.nodes f) z (n.kids.drop j)) ∧ Below w.heap.size w wr ∧ RowAt wr w.heap.size 0 [.slice (some ⟨b1, o1, none⟩) x.nodes.length pc'] ∧ w.heap.size < wr.heap.size) (fun _ ii _ => m - (intOf ii).toNat)
      case atStart => exact ⟨0, i + 1, by omega, by omega, by omega, by simp, rfl, by simp [Hid], hw, B, World.block_lt_of_cell? _ _ hb0⟩
      case round =>
        clear hb0 R1 B hw
        obtain ⟨j, z, hj, hz1, hz2, rfl, rfl, hK, hw, B, hs⟩ := hrel
        have hb0 := B.box1
        by_cases hjm : j < m
        · obtain ⟨b2, o2, k, s2, _, rfl, P2, ⟨rfl, hk64⟩, r2⟩ := ((k0.out.below IntR.good hw).get X1 hjm)
          have e0 : wr.cell? ⟨b2, o2 + j, none⟩ = some (.int .i64 k) := by simpa using r2 0 _ rfl
          have hdrop : n.kids.drop j = k :: n.kids.drop (j + 1) := by
            obtain ⟨hjl, he⟩ := List.getElem?_eq_some_iff.1 P2.out
            rw [List.drop_eq_getElem_cons hjl, he]
          rw [hdrop] at hK
          clear r2 hdrop
          by_cases hkz : k = z
          · subst hkz
            have hK1 : kidsEnd (ends x.nodes f) (z : Int) (((z : Nat) : Int) :: n.kids.drop (j + 1)) = (if ends x.nodes f z < 0 then -1 else kidsEnd (ends x.nodes f) (ends x.nodes f z) (n.kids.drop (j + 1))) := by
              conv => lhs; unfold kidsEnd
              simp
            rw [Hid, hK1] at hK
            replace hK := Lib.hid hK
            clear hK1
            have c1 := fun W hW => ih.out z [.slice (some ⟨b1, o1, none⟩) x.nodes.length pc'] lo W hW (by omega)
            have hr := ends_range x.nodes f z
            generalize ends x.nodes f z = e at *
            replace hr := Lib.hid hr
            have hd : ((z : Int) != z) = false := by simp
            go_wp2_with fail
            refine (c1 _ (GData.good.below Hx hw)).mono ?_
            rintro e' w2 ⟨rfl, hb⟩
            have hw2 := hw.trans (hb.mono hw.size)
            have B2 := B.below hb
            have hs2 := Nat.lt_of_lt_of_le hs hb.size
            clear hb hb0 e0 B hw hs
            by_cases he : e < 0
            · have d2 : decide (e < 0) = true := decide_eq_true he
              rw [Hid, if_pos he] at hK
              replace hK := Lib.hid hK
              clear hr c1 he
              go_wp2
              go_returns
              exact ⟨by rw [hK.out]; rfl, hw2⟩
            · have d2 : decide (e < 0) = false := decide_eq_false he
              rw [Hid, if_neg he] at hK
              have hr' := hr.out (by omega)
              obtain ⟨z', rfl⟩ : ∃ z' : Nat, e = z' := ⟨e.toNat, by omega⟩
              replace hK := Lib.hid hK
              clear hr c1 he
              go_wp2
              go_roundw
              case rel => exact ⟨j + 1, z', by omega, by omega, by omega, rfl, by go_num, hK, hw2, B2, hs2⟩
              case measure => simp [intOf]; omega
          · have hK1 : kidsEnd (ends x.nodes f) (z : Int) (k :: n.kids.drop (j + 1)) = -1 := by
              conv => lhs; unfold kidsEnd
              rw [if_pos hkz]
            rw [Hid, hK1] at hK
            replace hK := Lib.hid hK
            clear hK1
            have hd : (k != (z : Int)) = true := by simpa using hkz
            clear hkz
            go_wp2
            go_returns
            exact ⟨by rw [hK.out]; rfl, hw⟩
        · obtain rfl : j = m := by omega
          rw [Hid, X1.out, List.drop_length] at hK
          replace hK := Lib.hid (hK.trans (by unfold kidsEnd; rfl : _ = (z : Int)))
          go_wp2
          go_returns
          exact ⟨by rw [hK.out]; rfl, hw⟩
    · rw [ends_out (by omega)]; exact l07End_out x i _ lo w Hx (by omega)

end Go.Proofs.Ytpblhonnknmjjaa
