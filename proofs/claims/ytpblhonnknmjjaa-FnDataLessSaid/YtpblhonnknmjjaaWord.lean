/- Bytes and words: the program's and the reference's tests. -/
import Derived.Test.YtpblhonnknmjjaaWithin
namespace Go.Proofs.Ytpblhonnknmjjaa
open Go.RowKit
set_option linter.unusedVariables false
set_option linter.unusedSimpArgs false
attribute [local go_sem] Ext.cell

def lowB (n : Int) : Bool := decide (97 ≤ n ∧ n ≤ 122)
def upB (n : Int) : Bool := decide (65 ≤ n ∧ n ≤ 90)
def digB (n : Int) : Bool := decide (48 ≤ n ∧ n ≤ 57)
def wordB (n : Int) : Bool := lowB n || upB n || digB n || decide (n = 95)
def clsB (n : Int) : Int := if lowB n then 1 else if upB n then 2 else if digB n || decide (n = 95) then 3 else 0
theorem clsB_zero (n : Int) : decide (clsB n = 0) = !wordB n := by
  unfold clsB wordB
  cases lowB n <;> cases upB n <;> cases digB n <;> cases decide (n = 95) <;> simp
theorem clsB_two (n : Int) : decide (clsB n = 2) = upB n := by
  have : lowB n = true → upB n = false := by unfold lowB upB; simp; omega
  unfold clsB
  cases h1 : lowB n <;> cases h2 : upB n <;> cases digB n <;> cases decide (n = 95) <;> simp_all
theorem clsB_one (n : Int) : decide (clsB n = 1) = lowB n := by
  unfold clsB
  cases h1 : lowB n <;> cases h2 : upB n <;> cases digB n <;> cases decide (n = 95) <;> simp_all

theorem isLower_c (n : Int) (w : World) : Calls Try.prog 81 #[.int .u8 n] w fun e w' => e = .returned (.bool (lowB n)) ∧ w = w' := by
  go_enter Try.func81, Try.ntmps81
  go_wp2
  all_goals (go_returns; refine ⟨?_, rfl⟩; simp_all [lowB])
  all_goals omega
theorem isUpper_c (n : Int) (w : World) : Calls Try.prog 78 #[.int .u8 n] w fun e w' => e = .returned (.bool (upB n)) ∧ w = w' := by
  go_enter Try.func78, Try.ntmps78
  go_wp2
  all_goals (go_returns; refine ⟨?_, rfl⟩; simp_all [upB])
  all_goals omega
theorem isDigit_c (n : Int) (w : World) : Calls Try.prog 55 #[.int .u8 n] w fun e w' => e = .returned (.bool (digB n)) ∧ w = w' := by
  go_enter Try.func55, Try.ntmps55
  go_wp2
  all_goals (go_returns; refine ⟨?_, rfl⟩; simp_all [digB])
  all_goals omega
set_option maxHeartbeats 1000000 in
theorem isWord_c (n : Int) (w : World) : Calls Try.prog 59 #[.int .u8 n] w fun e w' => e = .returned (.bool (wordB n)) ∧ w = w' := by
  have c1 := isLower_c n w
  have c2 := isUpper_c n w
  have c3 := isDigit_c n w
  unfold wordB
  generalize lowB n = b1 at *
  generalize upB n = b2 at *
  generalize digB n = b3 at *
  have h : (n == 95) = decide (n = 95) := rfl
  cases hd : decide (n = 95) <;> rw [hd] at h <;> cases b1 <;> cases b2 <;> cases b3
  all_goals
    clear hd
    go_enter Try.func59, Try.ntmps59
    go_wp2_with (first | (go_at_call 81; ((with_reducible refine (c1).mono ?_); rintro e w1 ⟨rfl, rfl⟩)) | (go_at_call 78; ((with_reducible refine (c2).mono ?_); rintro e w1 ⟨rfl, rfl⟩)) | (go_at_call 55; ((with_reducible refine (c3).mono ?_); rintro e w1 ⟨rfl, rfl⟩)))
    go_returns
    exact ⟨rfl, rfl⟩
set_option maxHeartbeats 1000000 in
theorem l01Class_c (n : Int) (w : World) : Calls Try.prog 87 #[.int .u8 n] w fun e w' => e = .returned (.int .i64 (clsB n)) ∧ w = w' := by
  go_enter Try.func87, Try.ntmps87
  go_wp2
  all_goals (go_returns; refine ⟨?_, rfl⟩; simp_all [clsB, lowB, upB, digB])
  all_goals (try (intros; omega))
  all_goals (try (rw [if_neg (by omega)]))
  all_goals (try (rw [if_neg (by omega)]))
  all_goals (try (rw [if_neg (by omega)]))
  all_goals (try (rw [if_pos (by omega)]))

/-- Each byte of a text may stand in a word. -/
def allW (l : List UInt8) : Bool := l.all fun c => wordB c.toNat
theorem allW_take (s : ByteArray) (k : Nat) (h : k < s.size) : allW (s.data.toList.take (k + 1)) = (allW (s.data.toList.take k) && wordB s[k].toNat) := by
  have e : s.data.toList.take (k + 1) = s.data.toList.take k ++ [s[k]] := by
    rw [List.take_succ_eq_append_getElem (by simpa using h)]; rfl
  rw [e]
  unfold allW
  rw [List.all_append]
  simp
theorem allW_full (s : ByteArray) : s.data.toList.take s.size = s.data.toList := List.take_of_length_le (by simp)
theorem allW_bad (s : ByteArray) (k : Nat) (h : k < s.size) (hb : wordB s[k].toNat = false) : allW s.data.toList = false := by
  have h1 := allW_take s k h
  rw [hb, Bool.and_false] at h1
  cases hA : allW s.data.toList with
  | false => rfl
  | true =>
    exfalso
    unfold allW at h1 hA
    rw [List.all_eq_true] at hA
    have : (s.data.toList.take (k + 1)).all (fun c => wordB c.toNat) = true := List.all_eq_true.2 fun x hx => hA x (List.mem_of_mem_take hx)
    rw [this] at h1; cases h1
def wordOk (s : ByteArray) : Bool := allW s.data.toList && decide (1 ≤ (s.size : Int) ∧ (s.size : Int) ≤ 12)

set_option maxHeartbeats 1000000 in
theorem wordOk_c (s : ByteArray) (hs : StrOk s) (w : World) : Calls Try.prog 92 #[.string s] w fun e w' => e = .returned (.bool (wordOk s)) ∧ w = w' := by
  unfold StrOk at hs
  go_enter Try.func92, Try.ntmps92
  go_wp2_with fail
  go_loop [6] (fun i => ∃ k : Nat, k ≤ s.size ∧ i = .int .i64 k ∧ Hid (allW (s.data.toList.take k) = true)) (fun i => s.size - (intOf i).toNat)
  case atStart => exact ⟨0, Nat.zero_le _, rfl, rfl⟩
  case round =>
    obtain ⟨k, hk, rfl, hK⟩ := hrel
    by_cases hlt : k < s.size
    · have c1 := isWord_c (s[k].toNat : Int) w
      have h2 := Lib.hid (allW_take s k hlt)
      have h3 := Lib.hid (allW_bad s k hlt)
      generalize hq : wordB (s[k].toNat : Int) = q at *
      replace hq := Lib.hid hq
      cases q with
      | true =>
        go_wp2_with (go_at_call 59; ((with_reducible refine (c1).mono ?_); rintro e w1 ⟨rfl, rfl⟩))
        go_round
        case rel => exact ⟨k + 1, by omega, by go_num, by show _ = _; rw [h2.out, hK.out]; rfl⟩
        case measure => simp [intOf]; omega
      | false =>
        go_wp2_with (go_at_call 59; ((with_reducible refine (c1).mono ?_); rintro e w1 ⟨rfl, rfl⟩))
        go_returns
        exact ⟨by unfold wordOk; rw [h3.out trivial]; rfl, rfl⟩
    · obtain rfl : k = s.size := by omega
      go_wp2_with (go_at_call 41; ((with_reducible refine (within_c _ _ _ _).mono ?_); rintro e w1 ⟨rfl, rfl⟩))
      go_returns
      exact ⟨by unfold wordOk; rw [allW_full] at hK; rw [hK.out]; simp, rfl⟩

theorem StrOk.of_le {s : ByteArray} (h : StrOk s) : s.size ≤ 9223372036854775807 := h

/-- The first byte, 0 of an empty text. -/
def firstB (s : ByteArray) : Int := if h : 0 < s.size then (s[0]'h).toNat else 0
/-- The reference's test of a word. -/
def word01 (s : ByteArray) (first : Int) : Bool := decide (1 ≤ (s.size : Int) ∧ (s.size : Int) ≤ 12) && decide (clsB (firstB s) = first) && allW s.data.toList
set_option maxHeartbeats 1000000 in
theorem l01Word_c (s : ByteArray) (fi : Int) (hs : StrOk s) (w : World) : Calls Try.prog 72 #[.string s, .int .i64 fi] w fun e w' => e = .returned (.bool (word01 s fi)) ∧ w = w' := by
  unfold StrOk at hs
  by_cases h1 : 1 ≤ s.size ∧ s.size ≤ 12
  · obtain ⟨h1, h12⟩ := h1
    have h0 : 0 < s.size := by omega
    have h0' : (0 : Int) < s.size := by omega
    have d1 : decide ((s.size : Int) < 1) = false := by simp; omega
    have d2 : decide ((12 : Int) < s.size) = false := by simp; omega
    have hr : decide (1 ≤ (s.size : Int) ∧ (s.size : Int) ≤ 12) = true := by simp; omega
    have hf : firstB s = (s[0]'h0).toNat := by unfold firstB; rw [dif_pos h0]
    have c0 := l01Class_c ((s[0]'h0).toNat : Int) w
    by_cases hc : clsB ((s[0]'h0).toNat : Int) = fi
    · have hw : word01 s fi = allW s.data.toList := by unfold word01; rw [hr, hf, hc]; simp
      rw [hc] at c0
      have d3 : (fi != fi) = false := by simp
      replace hw := Lib.hid hw
      clear hc hf hr
      go_enter Try.func72, Try.ntmps72
      go_wp2_with (go_at_call 87; ((with_reducible refine (c0).mono ?_); rintro e w1 ⟨rfl, rfl⟩))
      go_loop [5] (fun i => ∃ k : Nat, k ≤ s.size ∧ i = .int .i64 k ∧ Hid (allW (s.data.toList.take k) = true)) (fun i => s.size - (intOf i).toNat)
      case atStart => exact ⟨0, Nat.zero_le _, rfl, rfl⟩
      case round =>
        obtain ⟨k, hk, rfl, hK⟩ := hrel
        by_cases hlt : k < s.size
        · have c1 := l01Class_c (s[k].toNat : Int) w
          have h2 := Lib.hid (allW_take s k hlt)
          have h3 := Lib.hid (allW_bad s k hlt)
          have h4 := clsB_zero (s[k].toNat : Int)
          generalize hq : clsB (s[k].toNat : Int) = q at *
          generalize hq' : wordB (s[k].toNat : Int) = q' at *
          replace hq := Lib.hid hq
          replace hq' := Lib.hid hq'
          have h5 : (q == 0) = !q' := h4
          clear h4
          cases q' with
          | true =>
            have h6 : (q == 0) = false := h5
            clear h5
            go_wp2_with (go_at_call 87; ((with_reducible refine (c1).mono ?_); rintro e w1 ⟨rfl, rfl⟩))
            go_round
            case rel => exact ⟨k + 1, by omega, by go_num, by show _ = _; rw [h2.out, hK.out]; rfl⟩
            case measure => simp [intOf]; omega
          | false =>
            have h6 : (q == 0) = true := h5
            clear h5
            go_wp2_with (go_at_call 87; ((with_reducible refine (c1).mono ?_); rintro e w1 ⟨rfl, rfl⟩))
            go_returns
            exact ⟨by rw [hw.out, h3.out trivial]; rfl, rfl⟩
        · obtain rfl : k = s.size := by omega
          go_wp2_with fail
          go_returns
          exact ⟨by rw [hw.out]; rw [allW_full] at hK; rw [hK.out]; rfl, rfl⟩
    · have hw : word01 s fi = false := by unfold word01; rw [hf, decide_eq_false hc]; simp
      have d3 : (clsB ((s[0]'h0).toNat : Int) != fi) = true := by simpa using hc
      replace hw := Lib.hid hw
      clear hc hf hr
      generalize clsB ((s[0]'h0).toNat : Int) = q at *
      go_enter Try.func72, Try.ntmps72
      go_wp2_with (go_at_call 87; ((with_reducible refine (c0).mono ?_); rintro e w1 ⟨rfl, rfl⟩))
      go_returns
      exact ⟨by rw [hw.out]; rfl, rfl⟩
  · have hw : word01 s fi = false := by unfold word01; rw [decide_eq_false (by omega)]; rfl
    replace hw := Lib.hid hw
    by_cases h0 : s.size < 1
    · have d1 : decide ((s.size : Int) < 1) = true := by simp; omega
      go_enter Try.func72, Try.ntmps72
      go_wp2_with fail
      go_returns
      exact ⟨by rw [hw.out]; rfl, rfl⟩
    · have d1 : decide ((s.size : Int) < 1) = false := by simp; omega
      have d2 : decide ((12 : Int) < s.size) = true := by simp; omega
      clear h1 h0
      go_enter Try.func72, Try.ntmps72
      go_wp2_with fail
      go_returns
      exact ⟨by rw [hw.out]; rfl, rfl⟩

end Go.Proofs.Ytpblhonnknmjjaa
