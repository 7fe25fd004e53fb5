/- Lines: strings.Contains of a line's end, lineOk; the reference's l23Line, l23Lines. -/
import Derived.Test.YtigacgfaliicaaaWord
import Derived.Test.YtigacgfaliicaaaFind
import Derived.Lib.Bytealg
import Derived.Lib.IndexAny
namespace Go.Proofs.Ytigacgfaliicaaa
open Go.RowKit
set_option linter.unusedVariables false
set_option linter.unusedSimpArgs false
attribute [local go_sem] Ext.cell

def hasNl (s : ByteArray) : Bool := s.data.toList.contains 10
def lineOk (s : ByteArray) : Bool := decide ((s.size : Int) ≤ 200) && !hasNl s

set_option maxRecDepth 100000 in
set_option maxHeartbeats 1000000 in
theorem slIndexByte_c (s : ByteArray) (w : World) :
    Calls Try.prog 57 #[.string s, .int .u8 10] w fun e w' => e = .returned (.int .i64 (Lib.indexByte s.data.toList 10)) ∧ w = w' := by
  go_enter Try.func57, Try.ntmps57
  go_wp2
  rw [run_callFunc_extern Try.func61 (by kernel_rfl) (by kernel_rfl) (by kernel_rfl) (e := Extern.BytealgIndexByte.indexByte) (by kernel_rfl), Lib.run_indexByteString]
  simp only [Result.andThen]
  rw [Oper.upon_value]
  go_wp2
  go_returns
  exact ⟨rfl, rfl⟩

set_option maxRecDepth 100000 in
set_option maxHeartbeats 2000000 in
theorem slIndex_c (s : ByteArray) (w : World) :
    Calls Try.prog 56 #[.string s, .string ⟨#[10]⟩] w fun e w' => ∃ n : Int, e = .returned (.int .i64 n) ∧ decide (0 ≤ n) = hasNl s ∧ w = w' := by
  have c1 := fun W => slIndexByte_c s W
  have hc : hasNl s = decide (0 ≤ Lib.indexByte s.data.toList 10) := Lib.contains_iff_indexByte _ _
  generalize Lib.indexByte s.data.toList 10 = ib at *
  cases hq : ([(10 : UInt8)] == s.toList)
  · replace hc := Lib.hid hc
    go_enter Try.func56, Try.ntmps56
    go_wp2_with (go_at_call 57; show Calls _ _ #[.string s, .int .u8 10] _ _; ((with_reducible refine (c1 _).mono ?_); rintro e w1 ⟨rfl, rfl⟩))
    go_returns
    exact ⟨ib, rfl, hc.out.symm, rfl⟩
  · have ht : hasNl s = true := by
      have := eq_of_beq hq
      unfold hasNl
      rw [← ByteArray.toList_eq, ← this]
      rfl
    replace ht := Lib.hid ht
    clear hc c1
    go_enter Try.func56, Try.ntmps56
    go_wp2_with fail
    go_returns
    exact ⟨0, rfl, by rw [ht.out]; rfl, rfl⟩

set_option maxHeartbeats 1000000 in
theorem sContains_c (s : ByteArray) (w : World) :
    Calls Try.prog 43 #[.string s, .string ⟨#[10]⟩] w fun e w' => e = .returned (.bool (hasNl s)) ∧ w = w' := by
  have c1 : ∀ W, Calls Try.prog 51 #[.string s, .string ⟨#[10]⟩] W fun e w' => ∃ n : Int, e = .returned (.int .i64 n) ∧ decide (0 ≤ n) = hasNl s ∧ W = w' := by
    intro W
    have c0 := slIndex_c s W
    generalize hasNl s = q at *
    go_enter Try.func51, Try.ntmps51
    go_wp2_with (go_at_call 56; ((with_reducible refine c0.mono ?_); rintro e w1 ⟨n, rfl, hn, rfl⟩))
    go_returns
    exact ⟨n, rfl, hn, rfl⟩
  generalize hasNl s = q at *
  go_enter Try.func43, Try.ntmps43
  go_wp2_with (go_at_call 51; ((with_reducible refine (c1 _).mono ?_); rintro e w1 ⟨n, rfl, hn, rfl⟩))
  go_returns
  exact ⟨rfl, rfl⟩

set_option maxHeartbeats 1000000 in
theorem lineOk_c (s : ByteArray) (hs : StrOk s) (w : World) : Calls Try.prog 26 #[.string s] w fun e w' => e = .returned (.bool (lineOk s)) ∧ w = w' := by
  have c1 := fun W => sContains_c s W
  unfold StrOk at hs
  unfold lineOk
  generalize hasNl s = q at *
  cases d : decide ((s.size : Int) ≤ 200)
  all_goals
    go_enter Try.func26, Try.ntmps26
    go_wp2_with (go_at_call 43; ((with_reducible refine (c1 _).mono ?_); rintro e w1 ⟨rfl, rfl⟩))
    go_returns
    exact ⟨by simp, rfl⟩

theorem noNl_take (s : ByteArray) (k : Nat) (h : k < s.size) : (s.data.toList.take (k + 1)).contains 10 = ((s.data.toList.take k).contains 10 || (s[k] == 10)) := by
  have e : s.data.toList.take (k + 1) = s.data.toList.take k ++ [s[k]] := by
    rw [List.take_succ_eq_append_getElem (by simpa using h)]; rfl
  rw [e]
  rw [List.contains_eq_any_beq, List.contains_eq_any_beq, List.any_append]
  congr 1
  simp only [List.any_cons, List.any_nil, Bool.or_false]
  exact Bool.eq_iff_iff.2 ⟨fun h => by simpa using (eq_of_beq h).symm, fun h => by simpa using (eq_of_beq h).symm⟩
theorem u8_ten (b : UInt8) : ((b.toNat : Int) == 10) = (b == 10) := by
  by_cases h : b = 10
  · subst h; rfl
  · have h1 : ((b.toNat : Int) == 10) = false := by
      rw [beq_eq_false_iff_ne]
      intro e
      exact h (UInt8.toNat_inj.1 (show b.toNat = (10 : UInt8).toNat from by have : b.toNat = 10 := by omega
                                                                            rw [this]; rfl))
    rw [h1, beq_eq_false_iff_ne.2 h]

set_option maxRecDepth 100000 in
set_option maxHeartbeats 2000000 in
theorem l23Line_c (s : ByteArray) (hs : StrOk s) (w : World) : Calls Try.prog 37 #[.string s] w fun e w' => e = .returned (.bool (lineOk s)) ∧ w = w' := by
  unfold StrOk at hs
  go_enter Try.func37, Try.ntmps37
  go_wp2_with fail
  go_loop [3] (fun i => ∃ k : Nat, k ≤ s.size ∧ i = .int .i64 k ∧ Hid ((s.data.toList.take k).contains 10 = false)) (fun i => s.size - (intOf i).toNat)
  case atStart => exact ⟨0, Nat.zero_le _, rfl, rfl⟩
  case round =>
    obtain ⟨k, hk, rfl, hK⟩ := hrel
    by_cases hlt : k < s.size
    · have h2 := Lib.hid (noNl_take s k hlt)
      have h3 := u8_ten s[k]
      generalize hq : (s[k] == 10) = q at *
      replace hq := Lib.hid hq
      cases q with
      | false =>
        go_wp2_with fail
        go_round
        case rel => exact ⟨k + 1, by omega, by go_num, by show _ = _; rw [h2.out, hK.out]; rfl⟩
        case measure => simp [intOf]; omega
      | true =>
        have hbad : lineOk s = false := by
          unfold lineOk hasNl
          have : s.data.toList.contains 10 = true := by
            rw [List.contains_iff_mem]
            have := h2.out
            rw [Bool.or_true] at this
            exact List.mem_of_mem_take (List.contains_iff_mem.1 this)
          rw [this]; simp
        replace hbad := Lib.hid hbad
        go_wp2_with fail
        go_returns
        exact ⟨by rw [hbad.out]; rfl, rfl⟩
    · obtain rfl : k = s.size := by omega
      have hfin : lineOk s = decide ((s.size : Int) ≤ 200) := by
        have h := hK.out
        rw [allW_full] at h
        unfold lineOk hasNl
        rw [h]; simp
      replace hfin := Lib.hid hfin
      go_wp2_with fail
      go_returns
      exact ⟨by rw [hfin.out]; first | rfl | (simp; done), rfl⟩

end Go.Proofs.Ytigacgfaliicaaa
