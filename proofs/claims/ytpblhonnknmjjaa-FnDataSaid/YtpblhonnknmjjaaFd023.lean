/- Parts of the proof, merged: Ri, Ri2, Ri3. -/
import Derived.Shelf.Abstract
import Derived.Test.YtpblhonnknmjjaaFd022
/- The program's reader of values: its box, take, run. -/
namespace Go.Proofs.Ytpblhonnknmjjaa
open Go.RowKit
set_option linter.unusedVariables false
set_option linter.unusedSimpArgs false
attribute [local go_sem] Ext.cell

/-- The program's reader in box b: over s, at a place. -/
structure RdI (w : World) (b : Nat) (s : ByteArray) (at_ : Nat) : Prop where
  row : RowAt w b 0 [.string s, .int .i64 (at_ : Int)]
  wr : Wr w b 0 2
theorem RdI.lt {w : World} {b : Nat} {s : ByteArray} {at_ : Nat} (h : RdI w b s at_) : b < w.heap.size := World.block_lt_of_cell? _ _ h.row.box2.1
theorem RdI.below {w w' : World} {b : Nat} {s : ByteArray} {at_ : Nat} (h : RdI w b s at_) (hb : Below w.heap.size w w') : RdI w' b s at_ := ⟨h.row.below hb, h.wr.below hb⟩
theorem RdI.kept {S : Nat → Prop} {w w' : World} {b : Nat} {s : ByteArray} {at_ : Nat} (h : RdI w b s at_) (hk : Kept S w w') (hS : ¬ S b) : RdI w' b s at_ := ⟨h.row.kept hk hS, h.wr.kept hk hS⟩
theorem RdI.setAt {w : World} {b : Nat} {s : ByteArray} {at_ k : Nat} (h : RdI w b s at_) : RdI (w.setCell ⟨b, 1, none⟩ (.int .i64 (k : Int))) b s k := ⟨h.row.putAt (j := 1) (by simp) _, h.wr.set 1 _⟩
theorem RdI.place {w : World} {b : Nat} {s : ByteArray} {at_ : Nat} (h : RdI w b s at_) : placeOf b w = at_ := by
  unfold placeOf
  rw [h.row.box2.2]
  simp
set_option maxHeartbeats 1000000 in
theorem slHasPrefix_c (s t : ByteArray) (hs : s.size ≤ 1048576) (ht : t.size ≤ 1048576) (w : World) :
    Calls Try.prog 89 #[.string s, .string t] w fun e w' => e = .returned (.bool (isAt t.data.toList s.data.toList)) ∧ w = w' := by
  have e0 : fromB s 0 = s.data.toList := rfl
  by_cases hf : s.size < t.size
  · have h1 : isAt t.data.toList s.data.toList = false := by rw [← e0]; exact isAt_far (by omega) (by omega)
    rw [h1]
    have d1 : decide ((t.size : Int) ≤ (s.size : Int)) = false := decide_eq_false (by omega)
    go_enter Try.func89, Try.ntmps89
    go_wp2_with fail
    go_returns
    exact ⟨rfl, rfl⟩
  · have h1 := isAt_near (s := s) (t := t) (k := 0) (by omega)
    rw [e0, Nat.zero_add] at h1
    rw [← h1]
    have d1 : decide ((t.size : Int) ≤ (s.size : Int)) = true := decide_eq_true (by omega)
    clear h1 e0
    go_enter Try.func89, Try.ntmps89
    go_wp2_with fail
    go_returns
    exact ⟨rfl, rfl⟩
theorem hasPrefix_c (s t : ByteArray) (hs : s.size ≤ 1048576) (ht : t.size ≤ 1048576) (w : World) :
    Calls Try.prog 77 #[.string s, .string t] w fun e w' => e = .returned (.bool (isAt t.data.toList s.data.toList)) ∧ w = w' := by
  have c1 := slHasPrefix_c s t hs ht w
  generalize isAt t.data.toList s.data.toList = q at *
  go_enter Try.func77, Try.ntmps77
  go_wp2_with (go_at_call 89; ((with_reducible refine (c1).mono ?_); rintro e w1 ⟨rfl, rfl⟩))
  go_returns
  exact ⟨rfl, rfl⟩
theorem extract_from (s : ByteArray) (k : Nat) : (s.extract k s.size).data.toList = fromB s k := by
  rw [ByteArray.data_extract, Array.toList_extract]
  show ((s.data.toList.drop k).take (s.size - k)) = _
  rw [List.take_of_length_le (by rw [List.length_drop]; show s.size - k ≤ s.size - k; omega)]
  rfl
set_option maxRecDepth 100000 in
set_option maxHeartbeats 4000000 in
theorem take_c (s t : ByteArray) (k b : Nat) (hs : s.size ≤ 1048576) (ht : t.size ≤ 1048576) (hk : k ≤ s.size) (w : World) (R : RdI w b s k) :
    Calls Try.prog 52 #[.pointer (some ⟨b, 0, none⟩), .string t] w fun e w' => e = .returned (.bool (isAt t.data.toList (fromB s k))) ∧ RdI w' b s (if isAt t.data.toList (fromB s k) then k + t.size else k) ∧ RdF b w w' := by
  obtain ⟨r_0, r_1⟩ := R.row.box2
  have hbl := R.lt
  have cP := fun W => hasPrefix_c (s.extract k s.size) t (by rw [ByteArray.size_extract]; omega) ht W
  rw [extract_from] at cP
  replace cP := Lib.hid cP
  cases hq : isAt t.data.toList (fromB s k)
  · rw [hq] at cP
    go_enter Try.func52, Try.ntmps52
    go_upto_region 1 with fail
    (refine wp_region_ext_lit (by kernel_rfl) (by kernel_rfl) ?_; (repeat (any_goals (first | go_big_quiet_step ((go_at_call 77; with_reducible exact Calls.ext_same (cP.out _))) | quiet_step ((go_at_call 77; with_reducible exact Calls.ext_same (cP.out _))) | (refine wpQuiet_step (fun K hK => ?_); go_simp; split <;> (refine hK _ ?_; clear hK K))))); all_goals (refine wpQuiet_nil ?_; rintro w1 ⟨⟨_, hb1⟩, rfl⟩))
    go_wp2_with fail
    go_returns
    exact ⟨rfl, R.below hb1, RdF.of hb1 (by omega)⟩
  · rw [hq] at cP
    go_enter Try.func52, Try.ntmps52
    go_upto_region 1 with fail
    (refine wp_region_ext_lit (by kernel_rfl) (by kernel_rfl) ?_; (repeat (any_goals (first | go_big_quiet_step ((go_at_call 77; with_reducible exact Calls.ext_same (cP.out _))) | quiet_step ((go_at_call 77; with_reducible exact Calls.ext_same (cP.out _))) | (refine wpQuiet_step (fun K hK => ?_); go_simp; split <;> (refine hK _ ?_; clear hK K))))); all_goals (refine wpQuiet_nil ?_; rintro w1 ⟨⟨_, hb1⟩, rfl⟩))
    have R1 := R.below hb1
    obtain ⟨m_0, m_1⟩ := R1.row.box2
    have f_1 := R1.wr.frz 1 (by omega)
    have hbl1 := R1.lt
    replace R1 := Lib.hid R1
    go_wp2_with fail
    go_returns
    have R2 := R1.out.setAt (k := k + t.size)
    exact ⟨rfl, by simpa using R2, (RdF.of hb1 (by omega)).set 1 _⟩
end Go.Proofs.Ytpblhonnknmjjaa

/- The program's reader of values: run. -/
namespace Go.Proofs.Ytpblhonnknmjjaa
open Go.RowKit
set_option linter.unusedVariables false
set_option linter.unusedSimpArgs false
attribute [local go_sem] Ext.cell

def tw (P : UInt8 → Bool) (s : ByteArray) (k : Nat) : List UInt8 := (fromB s k).takeWhile P
theorem tw_go {P : UInt8 → Bool} {s : ByteArray} {k : Nat} (h : k < s.size) (hb : P s[k] = true) : tw P s k = s[k] :: tw P s (k + 1) := by
  unfold tw; rw [fromB_cons h]; simp [hb]
theorem tw_stop {P : UInt8 → Bool} {s : ByteArray} {k : Nat} (h : k < s.size) (hb : P s[k] = false) : tw P s k = [] := by
  unfold tw; rw [fromB_cons h]; simp [hb]
theorem tw_nil {P : UInt8 → Bool} {s : ByteArray} {k : Nat} (h : s.size ≤ k) : tw P s k = [] := by unfold tw; rw [fromB_nil h]; rfl
theorem tw_le (P : UInt8 → Bool) (s : ByteArray) {k : Nat} (h : k ≤ s.size) : k + (tw P s k).length ≤ s.size := by
  have : tw P s k <+: fromB s k := List.takeWhile_prefix _
  have := this.length_le
  unfold fromB at this
  rw [List.length_drop] at this
  have e1 : s.data.toList.length = s.size := rfl
  omega
theorem tw_extract (P : UInt8 → Bool) (s : ByteArray) (k : Nat) : s.extract k (k + (tw P s k).length) = ⟨(tw P s k).toArray⟩ := by
  apply ByteArray.ext
  apply Array.ext'
  rw [ByteArray.data_extract, Array.toList_extract]
  show ((fromB s k).take (k + (tw P s k).length - k)) = tw P s k
  rw [Nat.add_sub_cancel_left]
  have : tw P s k <+: fromB s k := List.takeWhile_prefix _
  exact (List.prefix_iff_eq_take.1 this).symm
set_option maxRecDepth 100000 in
set_option maxHeartbeats 8000000 in
theorem run_c (s : ByteArray) (k b : Nat) (P : UInt8 → Bool) (g : Nat) (hs : s.size ≤ 1048576) (hk : k ≤ s.size)
    (hg : ∀ (x : UInt8) (W : World), Calls Try.prog g #[.int .u8 (x.toNat : Int)] W fun e w' => e = .returned (.bool (P x)) ∧ W = w')
    (eg : ∀ args w, (callFunc g args).run Try.prog w = .ok (.enter g args) w) (w : World) (R : RdI w b s k) :
    Calls Try.prog 57 #[.pointer (some ⟨b, 0, none⟩), .func (.func g) #[] #[]] w fun e w' => e = .returned (.string ⟨(tw P s k).toArray⟩) ∧ RdI w' b s (k + (tw P s k).length) ∧ RdF b w w' := by
  obtain ⟨r_0, r_1⟩ := R.row.box2
  have hbl := R.lt
  have hex := tw_extract P s k
  have hle := tw_le P s hk
  obtain ⟨q, hq⟩ : ∃ q, q = k + (tw P s k).length := ⟨_, rfl⟩
  have hq0 : Hid (k + (tw P s k).length = q) := hq.symm
  rw [← hq] at hex hle ⊢
  rw [← hex]
  clear hex
  have hkq : k ≤ q := by omega
  replace hq := Lib.hid hq; replace hg := Lib.hid hg
  go_enter Try.func57, Try.ntmps57
  go_wp2_with fail
  go_loopw [32] (fun z wr => ∃ p : Nat, k ≤ p ∧ p ≤ q ∧ Hid (p + (tw P s p).length = q) ∧ RdI wr b s p ∧ RdF b w wr) (fun _ wr => s.size - placeOf b wr)
  case atStart => exact ⟨k, by omega, by omega, hq0, R, RdF.refl _ _⟩
  case round =>
    clear r_0 r_1 R hbl
    obtain ⟨p, hp0, hp1, hpq, R, F⟩ := hrel
    obtain ⟨r_0, r_1⟩ := R.row.box2
    have hbl := R.lt
    have hpl := R.place
    by_cases hlt : p < s.size
    · have d1 : decide ((p : Int) < (s.size : Int)) = true := decide_eq_true (by omega)
      have cP := hg.out s[p]
      cases hPp : P s[p]
      · have hpe : p = q := by have h := hpq.out; rw [tw_stop hlt hPp] at h; exact h
        rw [hPp] at cP
        clear hpq
        subst hpe
        replace hpl := Lib.hid hpl; replace cP := Lib.hid cP; replace hPp := Lib.hid hPp
        go_upto_region 2 with fail
        (refine wp_region_ext_lit (by kernel_rfl) (by kernel_rfl) ?_; (repeat (any_goals (first | go_big_quiet_step ((go_at_fn g; with_reducible exact Calls.ext_same (cP.out _))) | quiet_step ((go_at_fn g; with_reducible exact Calls.ext_same (cP.out _))) | (refine wpQuiet_step (fun K hK => ?_); go_simp; split <;> (refine hK _ ?_; clear hK K))))); all_goals (refine wpQuiet_nil ?_; rintro w1 ⟨⟨_, hb1⟩, rfl⟩))
        have R1 := R.below hb1
        obtain ⟨m_0, m_1⟩ := R1.row.box2
        have hbl1 := R1.lt
        have hw1 := hb1.size
        go_upto_region 4 with fail
        (refine wp_region_ext_lit (by kernel_rfl) (by kernel_rfl) ?_; (repeat (any_goals (first | go_big_quiet_step (fail) | quiet_step (fail) | (refine wpQuiet_step (fun K hK => ?_); go_simp; split <;> (refine hK _ ?_; clear hK K))))); all_goals (refine wpQuiet_nil ?_; rintro w2 ⟨⟨_, hb2⟩, rfl⟩))
        go_wp2_with fail
        go_returns
        exact ⟨rfl, R1.below hb2, F.trans ((RdF.of hb1 (by omega)).trans (RdF.of hb2 (by omega)))⟩
      · have h1 := tw_go hlt hPp
        have hpq1 : Hid (p + 1 + (tw P s (p + 1)).length = q) := by
          show _ = _
          have h := hpq.out
          rw [h1] at h
          simp only [List.length_cons] at h
          omega
        have hpq2 : p + 1 ≤ q := by have := hpq1.out; omega
        rw [hPp] at cP
        replace hpl := Lib.hid hpl; replace cP := Lib.hid cP; replace hPp := Lib.hid hPp
        clear h1
        go_upto_region 2 with fail
        (refine wp_region_ext_lit (by kernel_rfl) (by kernel_rfl) ?_; (repeat (any_goals (first | go_big_quiet_step ((go_at_fn g; with_reducible exact Calls.ext_same (cP.out _))) | quiet_step ((go_at_fn g; with_reducible exact Calls.ext_same (cP.out _))) | (refine wpQuiet_step (fun K hK => ?_); go_simp; split <;> (refine hK _ ?_; clear hK K))))); all_goals (refine wpQuiet_nil ?_; rintro w1 ⟨⟨_, hb1⟩, rfl⟩))
        have R1 := R.below hb1
        obtain ⟨m_0, m_1⟩ := R1.row.box2
        have f_1 := R1.wr.frz 1 (by omega)
        have hbl1 := R1.lt
        have hw1 := hb1.size
        go_wp2_with fail
        have R2 := R1.setAt (k := p + 1)
        rw [show ((p + 1 : Nat) : Int) = (p : Int) + 1 by omega] at R2
        have hpl2 := R2.place
        go_roundw
        case rel => exact ⟨p + 1, by omega, hpq2, hpq1, R2, F.trans ((RdF.of hb1 (by omega)).set 1 _)⟩
        case measure => rw [hpl2, hpl.out]; omega
    · have hpe : p = q := by have h := hpq.out; rw [tw_nil (by omega : s.size ≤ p)] at h; exact h
      clear hpq
      subst hpe
      have d1 : decide ((p : Int) < (s.size : Int)) = false := decide_eq_false (by omega)
      replace hpl := Lib.hid hpl
      go_upto_region 2 with fail
      (refine wp_region_ext_lit (by kernel_rfl) (by kernel_rfl) ?_; (repeat (any_goals (first | go_big_quiet_step (fail) | quiet_step (fail) | (refine wpQuiet_step (fun K hK => ?_); go_simp; split <;> (refine hK _ ?_; clear hK K))))); all_goals (refine wpQuiet_nil ?_; rintro w1 ⟨⟨_, hb1⟩, rfl⟩))
      have R1 := R.below hb1
      obtain ⟨m_0, m_1⟩ := R1.row.box2
      have hbl1 := R1.lt
      have hw1 := hb1.size
      go_upto_region 4 with fail
      (refine wp_region_ext_lit (by kernel_rfl) (by kernel_rfl) ?_; (repeat (any_goals (first | go_big_quiet_step (fail) | quiet_step (fail) | (refine wpQuiet_step (fun K hK => ?_); go_simp; split <;> (refine hK _ ?_; clear hK K))))); all_goals (refine wpQuiet_nil ?_; rintro w2 ⟨⟨_, hb2⟩, rfl⟩))
      go_wp2_with fail
      go_returns
      exact ⟨rfl, R1.below hb2, F.trans ((RdF.of hb1 (by omega)).trans (RdF.of hb2 (by omega)))⟩

def numB (x : UInt8) : Bool := decide (x = 45) || digB x.toNat
theorem isNum_c (x : UInt8) (W : World) : Calls Try.prog 58 #[.int .u8 (x.toNat : Int)] W fun e w' => e = .returned (.bool (numB x)) ∧ W = w' := by
  have c1 := isDigit_c (x.toNat : Int) W
  have e45 : decide (x = 45) = ((x.toNat : Int) == 45) := by
    by_cases h : x = 45
    · subst h; rfl
    · rw [decide_eq_false h]
      have : (x.toNat : Int) ≠ 45 := fun e => h (UInt8.toNat_inj.1 (by show x.toNat = 45; omega))
      rw [beq_eq_false_iff_ne.2 this]
  unfold numB
  rw [e45]
  generalize digB x.toNat = d at *
  cases hd : ((x.toNat : Int) == 45) <;> cases d
  all_goals
    go_enter Try.func58, Try.ntmps58
    go_wp2_with (go_at_call 55; ((with_reducible refine (c1).mono ?_); rintro e w1 ⟨rfl, rfl⟩))
    go_returns
    exact ⟨rfl, rfl⟩
end Go.Proofs.Ytpblhonnknmjjaa

/- The program's reader of values: strings. -/
namespace Go.Proofs.Ytpblhonnknmjjaa
open Go.RowKit
set_option linter.unusedVariables false
set_option linter.unusedSimpArgs false
attribute [local go_sem] Ext.cell

/-- What a part of the program's reader hands back. -/
def RiPost (b : Nat) (s : ByteArray) (m : Option (PxT × List UInt8)) (F : Nat) (w : World) (e : Ending) (w' : World) : Prop :=
  (∃ (q p : Nat) (t : PxT), e = .returned (.tuple #[.pointer (some ⟨q, 0, none⟩), .bool true]) ∧ PxR F (fun g => w.heap.size ≤ g) w' (.pointer (some ⟨q, 0, none⟩)) t ∧ Wr w' q 0 4 ∧ RdI w' b s p ∧ p ≤ s.size ∧ m = some (t, fromB s p) ∧ RdF b w w') ∨
  (∃ (v : Option Addr) (p : Nat), e = .returned (.tuple #[.pointer v, .bool false]) ∧ RdI w' b s p ∧ p ≤ s.size ∧ m = none ∧ RdF b w w')
theorem px_leaf {S : Nat → Prop} {w : World} {q : Nat} {k n : Int} {s : ByteArray} (hwf : (PxT.mk k n s []).wf) (hq : S q) (h : RowAt w q 0 [.int .i64 k, .int .i64 n, .string s, .slice none 0 0]) : PxR 1 S w (.pointer (some ⟨q, 0, none⟩)) (.mk k n s []) :=
  ⟨q, none, 0, rfl, hq, hwf, h, Nat.le_refl _, by omega, fun h => absurd h (by show ¬ 0 < ([] : List PxT).length; simp)⟩
noncomputable def strM : Option (List UInt8 × List UInt8) → Option (PxT × List UInt8)
  | none => none
  | some (p, r) => match unquote (34 :: p) with
    | none => none
    | some s => some (tStr s, r)
theorem strR_M (l : List UInt8) : strR l = strM (scanQ l) := rfl
def qV : Option (List UInt8 × List UInt8) → Value
  | some p => .tuple #[.string ⟨(34 :: p.1).toArray⟩, .bool true]
  | none => .tuple #[.string ⟨#[]⟩, .bool false]
theorem quote_extract {s : ByteArray} {k p : Nat} (hk : k + 1 ≤ p) (hp : p < s.size) (h34 : s[p] = 34) (hq : s[k]'(by omega) = 34) : s.extract k (p + 1) = ⟨(34 :: ((fromB s (k + 1)).take (p - (k + 1)) ++ [34])).toArray⟩ := by
  apply ByteArray.ext
  apply Array.ext'
  rw [ByteArray.data_extract, Array.toList_extract]
  show ((fromB s k).take (p + 1 - k)) = _
  rw [take_from (by omega) hp, h34, fromB_cons (show k < s.size by omega), hq, show p - k = (p - (k + 1)) + 1 by omega, List.take_succ_cons]
  rfl
theorem scan_done {s : ByteArray} {k p : Nat} (h : ScAt s (k + 1) p) (hp : p < s.size) (h34 : s[p] = 34) : scanQ (fromB s (k + 1)) = some ((fromB s (k + 1)).take (p - (k + 1)) ++ [34], fromB s (p + 1)) := by
  unfold ScAt at h
  rw [h, fromB_cons hp, h34, scanQ_34]
  rfl
theorem scan_end {s : ByteArray} {k p : Nat} (h : ScAt s k p) (hp : s.size ≤ p) : scanQ (fromB s k) = none := by
  unfold ScAt at h
  rw [h, fromB_nil hp]
  rfl

set_option maxRecDepth 100000 in
set_option maxHeartbeats 8000000 in
theorem quoted_c (s : ByteArray) (k b : Nat) (x2 x3 : Value) (hs : s.size ≤ 1048576) (hk : k < s.size) (hq : s[k] = 34) (w : World) (R : RowAt w b 0 [.string s, .int .i64 (k : Int), x2, x3]) :
    Calls Try.prog 79 #[.pointer (some ⟨b, 0, none⟩)] w fun e w' => e = .returned (qV (scanQ (fromB s (k + 1)))) ∧ Below w.heap.size w w' := by
  obtain ⟨r_0, r_1, r_2, r_3⟩ := R.box4
  have hbl := World.block_lt_of_cell? _ _ r_0; dsimp only at hbl
  have hst := scAt_start s (k + 1)
  obtain ⟨m, hm⟩ : ∃ m, m = scanQ (fromB s (k + 1)) := ⟨_, rfl⟩
  rw [← hm]
  replace hm := Lib.hid hm; replace hq := Lib.hid hq
  go_enter Try.func79, Try.ntmps79
  go_wp2_with fail
  go_loopw [4] (fun i wr => ∃ p : Nat, k + 1 ≤ p ∧ p ≤ s.size + 1 ∧ i = .int .i64 (p : Int) ∧ Hid (ScAt s (k + 1) p) ∧ wr = w) (fun i _ => s.size + 2 - (intOf i).toNat)
  case atStart => exact ⟨k + 1, by omega, by omega, by go_num, hst, rfl⟩
  case round =>
    obtain ⟨p, hp0, hp1, rfl, hsc, rfl⟩ := hrel
    clear hst
    by_cases hlt : p < s.size
    · have d1 : decide ((p : Int) < (s.size : Int)) = true := decide_eq_true (by omega)
      have ne : ∀ (x c : UInt8), (x.toNat : Int) ≠ (c.toNat : Int) → x ≠ c := fun x c h e => h (by rw [e])
      have eq : ∀ (x c : UInt8), (x.toNat : Int) = (c.toNat : Int) → x = c := fun x c h => UInt8.toNat_inj.1 (by omega)
      by_cases h92 : (s[p].toNat : Int) = 92
      · have e2 : ((s[p].toNat : Int) == 92) = true := by rw [h92]; rfl
        have hsc2 : Hid (ScAt s (k + 1) (p + 2)) := by
          by_cases hl : p + 1 < s.size
          · exact scAt_two hsc.out hp0 hl (eq _ _ h92)
          · exact scAt_last hsc.out hlt (by omega) (eq _ _ h92)
        clear h92
        go_wp2_with fail
        go_roundw
        case rel => exact ⟨p + 2, by omega, by omega, by go_num, hsc2, by first | trivial | rfl⟩
        case measure => simp [intOf]; omega
      · have e2 : ((s[p].toNat : Int) == 92) = false := by rw [beq_eq_false_iff_ne]; exact h92
        by_cases h34 : (s[p].toNat : Int) = 34
        · have e3 : ((s[p].toNat : Int) == 34) = true := by rw [h34]; rfl
          have hx := quote_extract hp0 hlt (eq _ _ h34) hq.out
          have hd := scan_done hsc.out hlt (eq _ _ h34)
          have hmV : qV m = .tuple #[.string (s.extract k (p + 1)), .bool true] := by rw [hm.out, hd, hx]; rfl
          have q1 : (0 : Int) ≤ (p : Int) + 1 := by omega
          have q2 : (k : Int) ≤ (p : Int) + 1 := by omega
          have q3 : (p : Int) + 1 ≤ (s.size : Int) := by omega
          have q4 : ((p : Int) + 1).toNat = p + 1 := by omega
          have q5 : IntKind.i64.wrap ((p : Int) + 1) = (p : Int) + 1 := IntWalk.i64_in _ (by omega)
          clear h34 h92 hx hd
          replace hmV := Lib.hid hmV
          go_upto_region 8 with fail
          (refine wp_region_ext_lit (by kernel_rfl) (by kernel_rfl) ?_; (repeat (any_goals (first | go_big_quiet_step (fail) | quiet_step (fail) | (refine wpQuiet_step (fun K hK => ?_); go_simp; split <;> (refine hK _ ?_; clear hK K))))); all_goals (refine wpQuiet_nil ?_; rintro w1 ⟨⟨_, hb1⟩, rfl⟩))
          go_wp2_with fail
          go_returns
          exact ⟨by rw [hmV.out]; rfl, hb1⟩
        · have e3 : ((s[p].toNat : Int) == 34) = false := by rw [beq_eq_false_iff_ne]; exact h34
          have hsc2 : Hid (ScAt s (k + 1) (p + 1)) := scAt_one hsc.out hp0 hlt (ne _ _ h34) (ne _ _ h92)
          clear h34 h92
          go_wp2_with fail
          go_roundw
          case rel => exact ⟨p + 1, by omega, by omega, by go_num, hsc2, by first | trivial | rfl⟩
          case measure => simp [intOf]; omega
    · have d1 : decide ((p : Int) < (s.size : Int)) = false := decide_eq_false (by omega)
      have hmV : qV m = .tuple #[.string ⟨#[]⟩, .bool false] := by rw [hm.out, scan_end hsc.out (by omega : s.size ≤ p)]; rfl
      replace hmV := Lib.hid hmV
      go_wp2_with fail
      go_returns
      exact ⟨by rw [hmV.out]; rfl, Below.refl _ _⟩

set_option maxRecDepth 100000 in
set_option maxHeartbeats 8000000 in
theorem text_c (s : ByteArray) (k b : Nat) (hs : s.size ≤ 1048576) (hk : k < s.size) (hq : s[k] = 34) (w : World) (R : RdI w b s k) :
    Calls Try.prog 54 #[.pointer (some ⟨b, 0, none⟩)] w (RiPost b s (strR (fromB s (k + 1))) 1 w) := by
  obtain ⟨r_0, r_1⟩ := R.row.box2
  have hbl := R.lt
  have cQ := fun (bx : Nat) (W : World) (h : RowAt W bx 0 [.string s, .int .i64 (k : Int), .slice none 0 0, .int .i64 0]) => quoted_c s k bx _ _ hs hk hq W h
  obtain ⟨m, hm⟩ : ∃ m, m = scanQ (fromB s (k + 1)) := ⟨_, rfl⟩
  rw [strR_M, ← hm]
  rw [← hm] at cQ
  have hrest : ∀ pc r, m = some (pc, r) → r = fromB s (k + 1 + pc.length) ∧ k + 1 + pc.length ≤ s.size := fun pc r h => by
    have h1 := scanQ_len (hm.symm.trans h)
    have h2 := congrArg (List.drop pc.length) h1
    rw [fromB_drop, List.drop_left] at h2
    have h3 := congrArg List.length h1
    rw [List.length_append] at h3
    unfold fromB at h3
    rw [List.length_drop] at h3
    have e1 : s.data.toList.length = s.size := rfl
    exact ⟨h2.symm, by omega⟩
  replace hm := Lib.hid hm; replace cQ := Lib.hid cQ; replace hrest := Lib.hid hrest
  go_enter Try.func54, Try.ntmps54
  go_upto_region 1 with fail
  go_region_held3 (fun w' => w'.cell? ⟨b, 0, none⟩ = some (.string s) ∧ w'.cell? ⟨b, 1, none⟩ = some (.int .i64 (k : Int))) (first | exact ⟨r_0, r_1⟩ | go_keep) (fail)
  obtain ⟨w1, hW1⟩ : ∃ W, W = (w.alloc (.cells #[.string s, .int .i64 (k : Int), .slice none 0 0, .int .i64 0] 108)).drew := ⟨_, rfl⟩
  rw [← hW1]
  have hb1 : Below w.heap.size w w1 := by rw [hW1]; go_grown
  have X1 : RowAt w1 w.heap.size 0 [.string s, .int .i64 (k : Int), .slice none 0 0, .int .i64 0] := by rw [hW1]; exact RowAt.box w #[_, _, _, _] _
  have R1 := R.below hb1
  have F1 := RdF.of hb1 (by omega : b ≤ w.heap.size)
  have hX1 := World.block_lt_of_cell? _ _ X1.box4.1; dsimp only at hX1
  have cQ1 := cQ.out _ _ X1
  replace cQ1 := Lib.hid cQ1
  clear hW1 r_0 r_1
  cases m with
  | none =>
    replace cQ1 : Hid (Calls Try.prog 79 #[.pointer (some ⟨w.heap.size, 0, none⟩)] w1 fun e w' => e = .returned (.tuple #[.string ⟨#[]⟩, .bool false]) ∧ Below w1.heap.size w1 w') := cQ1
    have cU := fun W => impl_Unquote_c ⟨#[]⟩ (by decide) W
    rw [uq_short (by decide)] at cU
    replace cU : Hid (∀ W, Calls Try.prog 80 #[.string ⟨#[]⟩] W fun e w' => e = .returned (.tuple #[.string ⟨#[]⟩, .bool false]) ∧ Below W.heap.size W w') := cU
    go_wp2_with (first
      | (go_at_call 79; (with_reducible refine (cQ1.out).mono ?_); rintro e w2 ⟨rfl, hb2⟩)
      | (go_at_call 80; (with_reducible refine (cU.out _).mono ?_); rintro e w3 ⟨rfl, hb3⟩))
    go_returns
    have hz2 := hb2.size
    exact .inr ⟨none, k, rfl, (R1.below hb2).below hb3, by omega, rfl, (F1.trans (RdF.of hb2 (by omega))).trans (RdF.of hb3 (by omega))⟩
  | some pr =>
    obtain ⟨pc, r⟩ := pr
    obtain ⟨hr1, hr2⟩ := hrest.out pc r rfl
    obtain ⟨qs, hqs⟩ : ∃ qs : ByteArray, qs = ⟨(34 :: pc).toArray⟩ := ⟨_, rfl⟩
    have hqsz : qs.size = pc.length + 1 := by rw [hqs]; show (34 :: pc).toArray.size = _; simp
    replace cQ1 : Hid (Calls Try.prog 79 #[.pointer (some ⟨w.heap.size, 0, none⟩)] w1 fun e w' => e = .returned (.tuple #[.string qs, .bool true]) ∧ Below w1.heap.size w1 w') := by rw [hqs]; exact cQ1
    have cU := fun W => impl_Unquote_c qs (by omega) W
    have hqd : qs.data.toList = 34 :: pc := by rw [hqs]
    rw [hqd] at cU
    have hmm : strM (some (pc, r)) = match unquote (34 :: pc) with
        | none => none
        | some s => some (tStr s, r) := rfl
    have hul := fun t h => unquote_len (l := 34 :: pc) (t := t) h
    generalize unquote (34 :: pc) = u at *
    replace hmm := Lib.hid hmm
    have hsz1 : (k : Int) + (qs.size : Int) = ((k + 1 + pc.length : Nat) : Int) := by omega
    replace hqs := Lib.hid hqs; replace hqd := Lib.hid hqd; replace hr1 := Lib.hid hr1; replace hqsz' := Lib.hid hqsz; replace hul := Lib.hid hul
    have hqle : qs.size ≤ 1048576 := by omega
    clear hqsz
    cases u with
    | none =>
      replace cU : Hid (∀ W, Calls Try.prog 80 #[.string qs] W fun e w' => e = .returned (.tuple #[.string ⟨#[]⟩, .bool false]) ∧ Below W.heap.size W w') := cU
      replace hsz1 := Lib.hid hsz1
      go_wp2_with (first
        | (go_at_call 79; (with_reducible refine (cQ1.out).mono ?_); rintro e w2 ⟨rfl, hb2⟩)
        | (go_at_call 80; (with_reducible refine (cU.out _).mono ?_); rintro e w3 ⟨rfl, hb3⟩))
      go_returns
      have hz2 := hb2.size
      exact .inr ⟨none, k, rfl, (R1.below hb2).below hb3, by omega, hmm.out, (F1.trans (RdF.of hb2 (by omega))).trans (RdF.of hb3 (by omega))⟩
    | some tt =>
      replace cU : Hid (∀ W, Calls Try.prog 80 #[.string qs] W fun e w' => e = .returned (.tuple #[.string tt, .bool true]) ∧ Below W.heap.size W w') := cU
      have hts : tt.size ≤ 9223372036854775807 := by have := hul.out tt rfl; simp at this; omega
      replace hsz1 := Lib.hid hsz1
      go_wp2_with (first
        | (go_at_call 79; (with_reducible refine (cQ1.out).mono ?_); rintro e w2 ⟨rfl, hb2⟩)
        | (go_at_call 80; (with_reducible refine (cU.out _).mono ?_); rintro e w3 ⟨rfl, hb3⟩; have hz2 := hb2.size; have R3 := (R1.below hb2).below hb3; have F3 := (F1.trans (RdF.of hb2 (by omega))).trans (RdF.of hb3 (by omega)); obtain ⟨m_0, m_1⟩ := R3.row.box2; have f_1 := R3.wr.frz 1 (by omega); have hbl3 := R3.lt))
      obtain ⟨w4, hW4⟩ : ∃ W, W = w3.setCell ⟨b, 1, none⟩ (.int .i64 ((k : Int) + (qs.size : Int))) := ⟨_, rfl⟩
      rw [← hW4]
      have R4 : RdI w4 b s (k + 1 + pc.length) := by have h := R3.setAt (k := k + 1 + pc.length); rw [← hsz1.out, ← hW4] at h; exact h
      have F4 : RdF b w w4 := by rw [hW4]; exact F3.set 1 _
      have hz4 : w4.heap.size = w3.heap.size := by rw [hW4]; simp [World.setCell]
      clear hW4
      have hb5 : Below w4.heap.size w4 (w4.alloc (.cells #[.int .i64 2, .int .i64 0, .string tt, .slice none 0 0] 82)) := by go_grown
      have hwf : (PxT.mk 2 0 tt []).wf := wf0 (k := 2) (by omega) hts
      have L5 : RowAt (w4.alloc (.cells #[.int .i64 2, .int .i64 0, .string tt, .slice none 0 0] 82)) w3.heap.size 0 [.int .i64 2, .int .i64 0, .string tt, .slice none 0 0] := hz4 ▸ RowAt.box w4 #[_, _, _, _] _
      have W5 : Wr (w4.alloc (.cells #[.int .i64 2, .int .i64 0, .string tt, .slice none 0 0] 82)) w3.heap.size 0 4 := hz4 ▸ Wr.box w4 #[_, _, _, _] _
      have hz3 := F3.size
      go_returns
      exact .inl ⟨w3.heap.size, k + 1 + pc.length, tStr tt, rfl, px_leaf (S := fun g => w.heap.size ≤ g) hwf (by show w.heap.size ≤ w3.heap.size; omega) L5, W5, R4.below hb5, hr2, by rw [hmm.out, hr1.out], F4.trans (RdF.of hb5 (by have := R4.lt; omega))⟩
end Go.Proofs.Ytpblhonnknmjjaa
