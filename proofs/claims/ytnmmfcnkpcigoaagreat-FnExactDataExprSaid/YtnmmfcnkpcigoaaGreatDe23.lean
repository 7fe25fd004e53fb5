/- Parts of the proof, merged: Name, Name2, InsOk, InsOk3a, PatD. -/
import Derived.Test.YtnmmfcnkpcigoaaGreatDe22
/- Names: keywords, slices.Contains at []string, NameOk of both. -/
namespace Go.Proofs.YtnmmfcnkpcigoaaGreat
open Go.RowKit
set_option linter.unusedVariables false
set_option linter.unusedSimpArgs false
attribute [local go_sem] Ext.cell

set_option maxRecDepth 100000 in
set_option maxHeartbeats 4000000 in
theorem indexS_c (xs : List ByteArray) (v : ByteArray) (lo : Nat) (u : Value) (w : World) (hu : Sl StrR 1 lo w u xs) :
    Calls Tryz.prog 112 #[u, .string v] w (IdxPost (fun y => v.toList == y.toList) xs w) := by
  obtain ⟨ua, uc, rfl, ul, um, h0⟩ := hu
  replace h0 := Lib.hid h0
  obtain ⟨m, hm⟩ : ∃ m, m = xs.length := ⟨_, rfl⟩
  rw [← hm] at ul ⊢
  replace hm := Lib.hid hm
  go_enter Tryz.func112, Tryz.ntmps112
  go_wp2_with fail
  go_loopw [8] (fun i wr => ∃ k : Nat, k ≤ m ∧ i = .int .i64 k ∧ Below w.heap.size w wr ∧ Hid (∀ y ∈ xs.take k, (v.toList == y.toList) = false)) (fun i _ => m - (intOf i).toNat)
  case atStart => exact ⟨0, by omega, rfl, Below.refl _ _, fun y hy => by simp at hy⟩
  case round =>
    obtain ⟨k, hk, rfl, hw, hF⟩ := hrel
    by_cases hlt : k < m
    · obtain ⟨b1, o1, x, r, _, rfl, P1, ⟨rfl, -⟩, r1⟩ := (h0.out.below StrR.good hw).get hm hlt
      have e0 : wr.cell? ⟨b1, o1 + k, none⟩ = some (.string x) := by simpa using r1 0 _ rfl
      clear r1
      cases hq : (v.toList == x.toList) with
      | true =>
        go_wp2_with fail
        go_returns
        exact ⟨k, rfl, by
          have : xs.any (fun y => v.toList == y.toList) = true := List.any_eq_true.2 ⟨x, List.mem_of_getElem? P1.out, by simpa using hq⟩
          rw [this]; simp, hw⟩
      | false =>
        have hq' := Lib.hid hq
        go_wp2_with fail
        go_roundw
        case rel => exact ⟨k + 1, by omega, by go_num, hw, by
          show ∀ y ∈ xs.take (k + 1), (v.toList == y.toList) = false
          rw [take_snoc' P1.out]
          intro y hy
          rcases List.mem_append.1 hy with h | h
          · exact hF.out y h
          · simp at h; subst h; exact hq'.out⟩
        case measure => simp [intOf]; omega
    · obtain rfl : k = m := by omega
      go_wp2_with fail
      go_returns
      exact ⟨-1, rfl, by
        have hF := hF.out
        rw [take_full hm] at hF
        have : xs.any (fun y => v.toList == y.toList) = false := List.any_eq_false.2 fun y hy => by rw [hF y hy]; simp
        rw [this]; simp, hw⟩

theorem containsS_c (xs : List ByteArray) (v : ByteArray) (lo : Nat) (u : Value) (w : World) (hu : Sl StrR 1 lo w u xs) :
    Calls Tryz.prog 88 #[u, .string v] w fun e w' => e = .returned (.bool (xs.any fun y => v.toList == y.toList)) ∧ Below w.heap.size w w' := by
  have hc := indexS_c xs v lo u w hu
  replace hc : Calls Tryz.prog 112 #[u, .string v] w fun e w' => ∃ n : Int, e = .returned (.int .i64 n) ∧ decide (0 ≤ n) = (xs.any fun y => v.toList == y.toList) ∧ Below w.heap.size w w' := hc
  generalize (xs.any fun y => v.toList == y.toList) = q at *
  obtain ⟨ua, uc, rfl⟩ := hu.form
  clear hu
  go_enter Tryz.func88, Tryz.ntmps88
  go_wp2_with (go_at_call 112; refine hc.mono ?_; rintro e w1 ⟨n, rfl, hn, hb⟩)
  go_returns
  exact ⟨rfl, hb⟩

/-- The words that are kept. -/
def kwB : List ByteArray := [⟨#[108, 101, 116]⟩, ⟨#[114, 101, 99]⟩, ⟨#[105, 110]⟩, ⟨#[102, 117, 110]⟩, ⟨#[105, 102]⟩, ⟨#[116, 104, 101, 110]⟩, ⟨#[101, 108, 115, 101]⟩, ⟨#[109, 97, 116, 99, 104]⟩, ⟨#[119, 105, 116, 104]⟩, ⟨#[101, 110, 100]⟩, ⟨#[116, 121, 112, 101]⟩, ⟨#[111, 102]⟩, ⟨#[114, 97, 105, 115, 101]⟩, ⟨#[116, 114, 121]⟩, ⟨#[114, 101, 102]⟩, ⟨#[116, 114, 117, 101]⟩, ⟨#[102, 97, 108, 115, 101]⟩]
def isKw (s : ByteArray) : Bool := kwB.any fun y => s.toList == y.toList
theorem kw_row (w : World) (T : TypeId) : RowAt (w.alloc (.cells (kwB.map Value.string).toArray T)) w.heap.size 0 (kwB.map Value.string) := by
  have := RowAt.box w (kwB.map Value.string).toArray T
  simpa using this
theorem kw_ok : ∀ y ∈ kwB, StrOk y := by
  intro y hy
  have : y.size ≤ 5 := by
    revert y
    decide
  unfold StrOk
  omega
theorem row_strs {w : World} {g : Nat} {xs : List ByteArray} (h : RowAt w g 0 (xs.map Value.string)) (hok : ∀ y ∈ xs, StrOk y) (cap : Nat) (hc : xs.length ≤ cap) (hm : cap ≤ 9223372036854775807) : Sl StrR 1 g w (.slice (some ⟨g, 0, none⟩) xs.length cap) xs :=
  ⟨_, cap, rfl, hc, hm, fun _ => ⟨g, 0, Nat.le_refl _, rfl, fun i x hx => ⟨[.string x], ⟨rfl, hok x (List.mem_of_getElem? hx)⟩, fun j c hj => by
    cases j with
    | zero =>
      simp at hj; subst hj
      have := h i (.string x) (by rw [List.getElem?_map, hx]; rfl)
      simpa using this
    | succ j => simp at hj⟩⟩⟩

set_option maxRecDepth 100000 in
set_option maxHeartbeats 4000000 in
theorem keywords_c (w : World) : Calls Tryz.prog 89 #[] w fun e w' => ∃ g, e = .returned (.slice (some ⟨g, 0, none⟩) 17 17) ∧ Sl StrR 1 0 w' (.slice (some ⟨g, 0, none⟩) 17 17) kwB ∧ Below w.heap.size w w' := by
  go_enter Tryz.func89, Tryz.ntmps89
  go_wp2_with fail
  go_returns
  refine ⟨w.heap.size, rfl, ?_, by go_grown⟩
  exact (row_strs (kw_row w 9) kw_ok 17 (by decide) (by omega)).mono StrR.good (Nat.zero_le _)

end Go.Proofs.YtnmmfcnkpcigoaaGreat

/- NameOk of both. -/
namespace Go.Proofs.YtnmmfcnkpcigoaaGreat
open Go.RowKit
set_option linter.unusedVariables false
set_option linter.unusedSimpArgs false
attribute [local go_sem] Ext.cell

def nameOk (s : ByteArray) : Bool := (wordOk s && lowB (firstB s)) && !isKw s
theorem word01_one (s : ByteArray) : word01 s 1 = (wordOk s && lowB (firstB s)) := by
  unfold word01 wordOk
  rw [clsB_one]
  cases decide (1 ≤ (s.size : Int) ∧ (s.size : Int) ≤ 12) <;> cases lowB (firstB s) <;> cases allW s.data.toList <;> rfl

set_option maxRecDepth 100000 in
set_option maxHeartbeats 4000000 in
theorem impl_NameOk_c (s : ByteArray) (hs : StrOk s) (w : World) : Calls Tryz.prog 52 #[.string s] w fun e w' => e = .returned (.bool (nameOk s)) ∧ Below w.heap.size w w' := by
  have c1 := fun W => wordOk_c s hs W
  unfold StrOk at hs
  have hk := fun u W (hW : Sl StrR 1 0 W u kwB) => containsS_c kwB s 0 u W hW
  unfold nameOk
  cases hw : wordOk s with
  | false =>
    rw [hw] at c1
    clear hw hk
    go_enter Tryz.func52, Tryz.ntmps52
    go_wp2_with (go_at_call 86; ((with_reducible refine (c1 _).mono ?_); rintro e w1 ⟨rfl, rfl⟩))
    go_returns
    exact ⟨rfl, Below.refl _ _⟩
  | true =>
    rw [hw] at c1
    have h0 : 0 < s.size := by unfold wordOk at hw; simp at hw; omega
    have h0' : (0 : Int) < s.size := by omega
    have hf : firstB s = (s[0]'h0).toNat := by unfold firstB; rw [dif_pos h0]
    rw [hf]
    clear hw hf
    have c2 := fun W => isLower_c ((s[0]'h0).toNat : Int) W
    generalize lowB ((s[0]'h0).toNat : Int) = lb at *
    have e : (kwB.any fun y => s.toList == y.toList) = isKw s := rfl
    rw [e] at hk
    clear e
    generalize isKw s = kw at *
    replace hk := Lib.hid hk
    cases lb with
    | false =>
      go_enter Tryz.func52, Tryz.ntmps52
      go_wp2_with (first | (go_at_call 86; ((with_reducible refine (c1 _).mono ?_); rintro e w1 ⟨rfl, rfl⟩)) | (go_at_call 87; ((with_reducible refine (c2 _).mono ?_); rintro e w1 ⟨rfl, rfl⟩)))
      go_returns
      exact ⟨rfl, Below.refl _ _⟩
    | true =>
      go_enter Tryz.func52, Tryz.ntmps52
      go_wp2_with (first | (go_at_call 86; ((with_reducible refine (c1 _).mono ?_); rintro e w1 ⟨rfl, rfl⟩)) | (go_at_call 87; ((with_reducible refine (c2 _).mono ?_); rintro e w1 ⟨rfl, rfl⟩)) | (go_at_call 89; ((with_reducible refine (keywords_c _).mono ?_); rintro e w1 ⟨g, rfl, hS, hb⟩)) | (go_at_call 88; ((with_reducible refine (hk.out _ _ hS).mono ?_); rintro e w2 ⟨rfl, hb2⟩)))
      go_returns
      exact ⟨rfl, hb.trans (hb2.mono hb.size)⟩

set_option maxRecDepth 100000 in
set_option maxHeartbeats 4000000 in
theorem l01Kept_c (s : ByteArray) (w : World) : Calls Tryz.prog 69 #[.string s] w fun e w' => e = .returned (.bool (isKw s)) ∧ Below w.heap.size w w' := by
  have H := row_strs (kw_row w 9) kw_ok 17 (by decide) (by omega)
  obtain ⟨W0, hW0⟩ : ∃ W0, W0 = w.alloc (.cells (kwB.map Value.string).toArray 9) := ⟨_, rfl⟩
  have hw0 : Below w.heap.size w W0 := by rw [hW0]; go_grown
  rw [← hW0] at H
  obtain ⟨a, c, hv, -, -, h0⟩ := H
  injection hv with e1 e2 e3
  subst e1
  replace h0 := Lib.hid h0
  clear e2 e3
  go_enter Tryz.func69, Tryz.ntmps69
  go_upto_region 2 with fail
  rw [show w.alloc (.cells #[.string ⟨#[108, 101, 116]⟩, .string ⟨#[114, 101, 99]⟩, .string ⟨#[105, 110]⟩, .string ⟨#[102, 117, 110]⟩, .string ⟨#[105, 102]⟩, .string ⟨#[116, 104, 101, 110]⟩, .string ⟨#[101, 108, 115, 101]⟩, .string ⟨#[109, 97, 116, 99, 104]⟩, .string ⟨#[119, 105, 116, 104]⟩, .string ⟨#[101, 110, 100]⟩, .string ⟨#[116, 121, 112, 101]⟩, .string ⟨#[111, 102]⟩, .string ⟨#[114, 97, 105, 115, 101]⟩, .string ⟨#[116, 114, 121]⟩, .string ⟨#[114, 101, 102]⟩, .string ⟨#[116, 114, 117, 101]⟩, .string ⟨#[102, 97, 108, 115, 101]⟩] 9) = W0 from hW0.symm]
  clear hW0
  go_loopw [7] (fun i wr => ∃ k : Nat, k ≤ 17 ∧ i = .int .i64 k ∧ Below w.heap.size w wr ∧ Below W0.heap.size W0 wr ∧ Hid (∀ y ∈ kwB.take k, (s.toList == y.toList) = false)) (fun i _ => 17 - (intOf i).toNat)
  case atStart => exact ⟨0, by omega, rfl, hw0, Below.refl _ _, fun y hy => by simp at hy⟩
  case round =>
    obtain ⟨k, hk, rfl, hw, hw1, hF⟩ := hrel
    have hlen : kwB.length = 17 := rfl
    by_cases hlt : k < 17
    · obtain ⟨b1, o1, x, r, _, hab, P1, ⟨rfl, -⟩, r1⟩ := (h0.out.below StrR.good hw1).get (n := 17) (Lib.hid rfl) hlt
      obtain ⟨rfl, rfl⟩ : w.heap.size = b1 ∧ 0 = o1 := by injection hab with h; injection h with h1 h2; exact ⟨h1, h2⟩
      have e0 : wr.cell? ⟨w.heap.size, k, none⟩ = some (.string x) := by simpa using r1 0 _ rfl
      clear r1 hab hlen
      cases hq : (s.toList == x.toList) with
      | true =>
        have hfin : isKw s = true := List.any_eq_true.2 ⟨x, List.mem_of_getElem? P1.out, by simpa using hq⟩
        replace hfin := Lib.hid hfin
        go_wp2_with fail
        go_returns
        exact ⟨by rw [hfin.out]; rfl, hw⟩
      | false =>
        have hq' := Lib.hid hq
        go_wp2_with fail
        go_roundw
        case rel => exact ⟨k + 1, by omega, by go_num, hw, hw1, by
          show ∀ y ∈ kwB.take (k + 1), (s.toList == y.toList) = false
          rw [take_snoc' P1.out]
          intro y hy
          rcases List.mem_append.1 hy with h | h
          · exact hF.out y h
          · simp at h; subst h; exact hq'.out⟩
        case measure => simp [intOf]; omega
    · obtain rfl : k = 17 := by omega
      have hfin : isKw s = false := List.any_eq_false.2 fun y hy => by rw [hF.out y (by rw [List.take_of_length_le (by rw [hlen]; omega)]; exact hy)]; simp
      replace hfin := Lib.hid hfin
      clear hlen
      go_wp2_with fail
      go_returns
      exact ⟨by rw [hfin.out]; rfl, hw⟩

set_option maxRecDepth 100000 in
set_option maxHeartbeats 4000000 in
theorem spec_NameOk_c (s : ByteArray) (hs : StrOk s) (w : World) : Calls Tryz.prog 37 #[.string s] w fun e w' => e = .returned (.bool (nameOk s)) ∧ Below w.heap.size w w' := by
  have c1 := fun W => l01Word_c s 1 hs W
  have c2 := fun W => l01Kept_c s W
  rw [word01_one] at c1
  unfold nameOk
  generalize (wordOk s && lowB (firstB s)) = b1 at *
  generalize isKw s = b2 at *
  cases b1 with
  | false =>
    go_enter Tryz.func37, Tryz.ntmps37
    go_wp2_with (go_at_call 68; ((with_reducible refine (c1 _).mono ?_); rintro e w1 ⟨rfl, rfl⟩))
    go_returns
    exact ⟨rfl, Below.refl _ _⟩
  | true =>
    go_enter Tryz.func37, Tryz.ntmps37
    go_wp2_with (first | (go_at_call 68; ((with_reducible refine (c1 _).mono ?_); rintro e w1 ⟨rfl, rfl⟩)) | (go_at_call 69; ((with_reducible refine (c2 _).mono ?_); rintro e w1 ⟨rfl, hb⟩)))
    go_returns
    exact ⟨rfl, hb⟩

end Go.Proofs.YtnmmfcnkpcigoaaGreat

/- When an instruction is right; the program's test. -/
namespace Go.Proofs.YtnmmfcnkpcigoaaGreat
open Go.RowKit
set_option linter.unusedVariables false
set_option linter.unusedSimpArgs false
attribute [local go_sem] Ext.cell

def leadsP (op : Int) : Bool := op == 8 || (op == 9 || (op == 12 || (op == 13 || op == 18)))
def sPrint : List UInt8 := [112, 114, 105, 110, 116]
def sSay : List UInt8 := [115, 97, 121]
def sRead : List UInt8 := [114, 101, 97, 100]
def sSize : List UInt8 := [115, 105, 122, 101]
def givenOk (s : ByteArray) : Bool := s.toList == sPrint || (s.toList == sSay || (s.toList == sRead || s.toList == sSize))
def primB : List ByteArray := [⟨#[43]⟩, ⟨#[45]⟩, ⟨#[42]⟩, ⟨#[47]⟩, ⟨#[37]⟩, ⟨#[94]⟩, ⟨#[61]⟩, ⟨#[60, 62]⟩, ⟨#[60]⟩, ⟨#[60, 61]⟩]
def primOk (s : ByteArray) : Bool := primB.any fun y => s.toList == y.toList

theorem prim_row (w : World) (T : TypeId) : RowAt (w.alloc (.cells (primB.map Value.string).toArray T)) w.heap.size 0 (primB.map Value.string) := by
  have := RowAt.box w (primB.map Value.string).toArray T
  simpa using this
theorem prim_ok : ∀ y ∈ primB, StrOk y := by
  intro y hy
  have : y.size ≤ 5 := by
    revert y
    decide
  unfold StrOk; omega
set_option maxRecDepth 100000 in
set_option maxHeartbeats 4000000 in
theorem primOps_c (w : World) : Calls Tryz.prog 108 #[] w fun e w' => ∃ g, e = .returned (.slice (some ⟨g, 0, none⟩) 10 10) ∧ Sl StrR 1 0 w' (.slice (some ⟨g, 0, none⟩) 10 10) primB ∧ Below w.heap.size w w' := by
  go_enter Tryz.func108, Tryz.ntmps108
  go_wp2_with fail
  go_returns
  refine ⟨w.heap.size, rfl, ?_, by go_grown⟩
  exact (row_strs (prim_row w 9) prim_ok 10 (by decide) (by omega)).mono StrR.good (Nat.zero_le _)

def insOkP (n m : Nat) (x : GIns) : Bool :=
  if leadsP x.op then decide (0 ≤ x.a ∧ x.a ≤ (n : Int) - 1) && ((x.b == 0) && x.s.toList.isEmpty)
  else if x.op = 20 then decide (0 ≤ x.a ∧ x.a ≤ (m : Int) - 1) && (decide (0 ≤ x.b ∧ x.b ≤ (n : Int) - 1) && x.s.toList.isEmpty)
  else if x.op = 6 ∨ x.op = 15 then decide (0 ≤ x.a ∧ x.a ≤ 3000) && ((x.b == 0) && x.s.toList.isEmpty)
  else if x.op = 1 then decide (-4611686018427387904 ≤ x.a ∧ x.a ≤ 4611686018427387903) && ((x.b == 0) && x.s.toList.isEmpty)
  else if x.op = 4 then decide (0 ≤ x.a ∧ x.a ≤ 1) && ((x.b == 0) && conShape x.s x.a true)
  else if x.op = 2 then (x.a == 0) && (x.b == 0)
  else if x.op = 7 then (x.a == 0) && ((x.b == 0) && givenOk x.s)
  else if x.op = 16 then (x.a == 0) && ((x.b == 0) && primOk x.s)
  else decide (1 ≤ x.op ∧ x.op ≤ 25) && ((x.a == 0) && ((x.b == 0) && x.s.toList.isEmpty))

theorem insOk_kind (n m : Nat) (op a b : Int) (s : ByteArray) :
    (leadsP op = true ∧ insOkP n m ⟨op, a, b, s⟩ = (decide (0 ≤ a ∧ a ≤ (n : Int) - 1) && ((b == 0) && s.toList.isEmpty))) ∨
    (leadsP op = false ∧ (
      (op = 20 ∧ insOkP n m ⟨op, a, b, s⟩ = (decide (0 ≤ a ∧ a ≤ (m : Int) - 1) && (decide (0 ≤ b ∧ b ≤ (n : Int) - 1) && s.toList.isEmpty))) ∨
      ((op = 6 ∨ op = 15) ∧ insOkP n m ⟨op, a, b, s⟩ = (decide (0 ≤ a ∧ a ≤ 3000) && ((b == 0) && s.toList.isEmpty))) ∨
      (op = 1 ∧ insOkP n m ⟨op, a, b, s⟩ = (decide (-4611686018427387904 ≤ a ∧ a ≤ 4611686018427387903) && ((b == 0) && s.toList.isEmpty))) ∨
      (op = 4 ∧ insOkP n m ⟨op, a, b, s⟩ = (decide (0 ≤ a ∧ a ≤ 1) && ((b == 0) && conShape s a true))) ∨
      (op = 2 ∧ insOkP n m ⟨op, a, b, s⟩ = ((a == 0) && (b == 0))) ∨
      (op = 7 ∧ insOkP n m ⟨op, a, b, s⟩ = ((a == 0) && ((b == 0) && givenOk s))) ∨
      (op = 16 ∧ insOkP n m ⟨op, a, b, s⟩ = ((a == 0) && ((b == 0) && primOk s))) ∨
      ((op == 20) = false ∧ (op == 6) = false ∧ (op == 15) = false ∧ (op == 1) = false ∧ (op == 4) = false ∧ (op == 2) = false ∧ (op == 7) = false ∧ (op == 16) = false ∧
        insOkP n m ⟨op, a, b, s⟩ = (decide (1 ≤ op ∧ op ≤ 25) && ((a == 0) && ((b == 0) && s.toList.isEmpty)))))) := by
  unfold insOkP
  dsimp only
  cases hl : leadsP op
  · refine .inr ⟨rfl, ?_⟩
    rw [if_neg (by decide)]
    by_cases h20 : op = 20
    · exact .inl ⟨h20, by rw [if_pos h20]⟩
    by_cases h6 : op = 6 ∨ op = 15
    · exact .inr (.inl ⟨h6, by rw [if_neg h20, if_pos h6]⟩)
    by_cases h1 : op = 1
    · exact .inr (.inr (.inl ⟨h1, by rw [if_neg h20, if_neg h6, if_pos h1]⟩))
    by_cases h4 : op = 4
    · exact .inr (.inr (.inr (.inl ⟨h4, by rw [if_neg h20, if_neg h6, if_neg h1, if_pos h4]⟩)))
    by_cases h2 : op = 2
    · exact .inr (.inr (.inr (.inr (.inl ⟨h2, by rw [if_neg h20, if_neg h6, if_neg h1, if_neg h4, if_pos h2]⟩))))
    by_cases h7 : op = 7
    · exact .inr (.inr (.inr (.inr (.inr (.inl ⟨h7, by rw [if_neg h20, if_neg h6, if_neg h1, if_neg h4, if_neg h2, if_pos h7]⟩)))))
    by_cases h16 : op = 16
    · exact .inr (.inr (.inr (.inr (.inr (.inr (.inl ⟨h16, by rw [if_neg h20, if_neg h6, if_neg h1, if_neg h4, if_neg h2, if_neg h7, if_pos h16]⟩))))))
    refine .inr (.inr (.inr (.inr (.inr (.inr (.inr ⟨by simpa using h20, by simpa using fun h => h6 (.inl h), by simpa using fun h => h6 (.inr h), by simpa using h1, by simpa using h4, by simpa using h2, by simpa using h7, by simpa using h16, ?_⟩))))))
    rw [if_neg h20, if_neg h6, if_neg h1, if_neg h4, if_neg h2, if_neg h7, if_neg h16]
  · exact .inl ⟨rfl, by rw [if_pos rfl]⟩


end Go.Proofs.YtnmmfcnkpcigoaaGreat

/- When an instruction is right: the reference's test: its parts. -/
namespace Go.Proofs.YtnmmfcnkpcigoaaGreat
open Go.RowKit
set_option linter.unusedVariables false
set_option linter.unusedSimpArgs false
attribute [local go_sem] Ext.cell

set_option maxRecDepth 100000 in
set_option maxHeartbeats 4000000 in
theorem l04Prim_c (s : ByteArray) (w : World) : Calls Tryz.prog 71 #[.string s] w fun e w' => e = .returned (.bool (primOk s)) ∧ Below w.heap.size w w' := by
  have H := row_strs (prim_row w 9) prim_ok 10 (by decide) (by omega)
  obtain ⟨W0, hW0⟩ : ∃ W0, W0 = w.alloc (.cells (primB.map Value.string).toArray 9) := ⟨_, rfl⟩
  have hw0 : Below w.heap.size w W0 := by rw [hW0]; go_grown
  rw [← hW0] at H
  obtain ⟨a, c, hv, -, -, h0⟩ := H
  injection hv with e1 e2 e3
  subst e1
  replace h0 := Lib.hid h0
  clear e2 e3
  go_enter Tryz.func71, Tryz.ntmps71
  go_upto_region 2 with fail
  rw [show w.alloc (.cells #[.string ⟨#[43]⟩, .string ⟨#[45]⟩, .string ⟨#[42]⟩, .string ⟨#[47]⟩, .string ⟨#[37]⟩, .string ⟨#[94]⟩, .string ⟨#[61]⟩, .string ⟨#[60, 62]⟩, .string ⟨#[60]⟩, .string ⟨#[60, 61]⟩] 9) = W0 from hW0.symm]
  clear hW0
  go_loopw [7] (fun i wr => ∃ k : Nat, k ≤ 10 ∧ i = .int .i64 k ∧ Below w.heap.size w wr ∧ Below W0.heap.size W0 wr ∧ Hid (∀ y ∈ primB.take k, (s.toList == y.toList) = false)) (fun i _ => 10 - (intOf i).toNat)
  case atStart => exact ⟨0, by omega, rfl, hw0, Below.refl _ _, fun y hy => by simp at hy⟩
  case round =>
    obtain ⟨k, hk, rfl, hw, hw1, hF⟩ := hrel
    have hlen : primB.length = 10 := rfl
    by_cases hlt : k < 10
    · obtain ⟨b1, o1, x, r, _, hab, P1, ⟨rfl, -⟩, r1⟩ := (h0.out.below StrR.good hw1).get (n := 10) (Lib.hid rfl) hlt
      obtain ⟨rfl, rfl⟩ : w.heap.size = b1 ∧ 0 = o1 := by injection hab with h; injection h with h1 h2; exact ⟨h1, h2⟩
      have e0 : wr.cell? ⟨w.heap.size, k, none⟩ = some (.string x) := by simpa using r1 0 _ rfl
      clear r1 hab hlen
      cases hq : (s.toList == x.toList) with
      | true =>
        have hfin : primOk s = true := List.any_eq_true.2 ⟨x, List.mem_of_getElem? P1.out, by simpa using hq⟩
        replace hfin := Lib.hid hfin
        go_wp2_with fail
        go_returns
        exact ⟨by rw [hfin.out]; rfl, hw⟩
      | false =>
        have hq' := Lib.hid hq
        go_wp2_with fail
        go_roundw
        case rel => exact ⟨k + 1, by omega, by go_num, hw, hw1, by
          show ∀ y ∈ primB.take (k + 1), (s.toList == y.toList) = false
          rw [take_snoc' P1.out]
          intro y hy
          rcases List.mem_append.1 hy with h | h
          · exact hF.out y h
          · simp at h; subst h; exact hq'.out⟩
        case measure => simp [intOf]; omega
    · obtain rfl : k = 10 := by omega
      have hfin : primOk s = false := List.any_eq_false.2 fun y hy => by rw [hF.out y (by rw [List.take_of_length_le (by rw [hlen]; omega)]; exact hy)]; simp
      replace hfin := Lib.hid hfin
      clear hlen
      go_wp2_with fail
      go_returns
      exact ⟨by rw [hfin.out]; rfl, hw⟩

theorem leadsP_cases {op : Int} (h : leadsP op = true) : op = 8 ∨ op = 9 ∨ op = 12 ∨ op = 13 ∨ op = 18 := by
  unfold leadsP at h
  simpa using h
theorem leadsP_not {op : Int} (h : leadsP op = false) : (op == 8) = false ∧ (op == 9) = false ∧ (op == 12) = false ∧ (op == 13) = false ∧ (op == 18) = false := by
  unfold leadsP at h
  simpa using h

end Go.Proofs.YtnmmfcnkpcigoaaGreat

/- A pattern read as a value (the same cells). -/
namespace Go.Proofs.YtnmmfcnkpcigoaaGreat
open Go.RowKit
set_option linter.unusedVariables false
set_option linter.unusedSimpArgs false

def toD (x : GPNode) : GDNode := ⟨x.kind, x.n, x.s, x.kids⟩
def patD (q : GPat) : GData := ⟨q.nodes.map toD⟩
theorem Sl.map' {α β : Type} {R : Reading α} {R' : Reading β} (f : α → β) (hf : ∀ lo w r x, R lo w r x → R' lo w r (f x)) {sz lo : Nat} {w : World} {v : Value} {xs : List α} (h : Sl R sz lo w v xs) : Sl R' sz lo w v (xs.map f) := by
  obtain ⟨a, c, rfl, h1, h2, h3⟩ := h
  refine ⟨a, c, by rw [List.length_map], by rw [List.length_map]; exact h1, h2, fun h0 => ?_⟩
  obtain ⟨b, off, h4, h5, h6⟩ := h3 (by rwa [List.length_map] at h0)
  refine ⟨b, off, h4, h5, fun i y hy => ?_⟩
  rw [List.getElem?_map] at hy
  obtain ⟨x, hx, rfl⟩ := Option.map_eq_some_iff.1 hy
  obtain ⟨r, h7, h8⟩ := h6 i x hx
  exact ⟨r, hf _ _ _ _ h7, h8⟩
theorem GPat.toData {lo : Nat} {w : World} {r : List Value} {q : GPat} (h : GPat.R lo w r q) : GData.R lo w r (patD q) := by
  obtain ⟨u0, hr, _, h0⟩ := h
  exact ⟨u0, hr, trivial, h0.map' toD fun lo w r x hx => hx⟩
end Go.Proofs.YtnmmfcnkpcigoaaGreat
