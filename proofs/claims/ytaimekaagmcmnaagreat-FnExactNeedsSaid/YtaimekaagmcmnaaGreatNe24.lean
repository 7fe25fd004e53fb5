/- Parts of the proof, merged: Num3, Lx, Lx2, Lx3. -/
import Derived.Deep.RegionLaw
import Derived.IntWalk
import Derived.Lib.SlBytesConst
import Derived.Test.YtaimekaagmcmnaaGreatNe23
/- The text of a number: the reference's digits; NumText of both. -/
namespace Go.Proofs.YtaimekaagmcmnaaGreat
open Go.RowKit
set_option linter.unusedVariables false
set_option linter.unusedSimpArgs false
attribute [local go_sem] Ext.cell

theorem numS_small {N : Nat} (h : N < 10) : numS N = ⟨#[dig N]⟩ := by unfold numS; rw [revd_small h]; rfl
def numText (n : Int) : ByteArray := if -4611686018427387904 ≤ n ∧ n ≤ 4611686018427387903 then (if n < 0 then ⟨#[45]⟩ ++ numS n.natAbs else numS n.natAbs) else ByteArray.empty
theorem numS_len (N : Nat) (h : N ≤ 4611686018427387904) : (numS N).size ≤ 19 := by
  have := revd_len 18 N (by omega)
  show (revd N).reverse.toArray.size ≤ 19
  simpa using this

set_option maxHeartbeats 4000000 in
theorem impl_NumText_c (n : Int) (hi : I64 n) (w : World) :
    Calls Tryz.prog 173 #[.int .i64 n] w fun e w' => e = .returned (.string (numText n)) ∧ Below w.heap.size w w' := by
  obtain ⟨hi0, hi1⟩ := hi
  have W1 := fun W => within_c n (-4611686018427387904) 4611686018427387903 W
  unfold numText
  by_cases h : -4611686018427387904 ≤ n ∧ n ≤ 4611686018427387903
  · rw [decide_eq_true h] at W1
    rw [if_pos h]
    by_cases hn : n < 0
    · obtain ⟨N, rfl⟩ : ∃ N : Nat, n = -(N : Int) := ⟨n.natAbs, by omega⟩
      rw [if_pos hn, Int.natAbs_neg, Int.natAbs_natCast]
      have c1 := fun W => digits_c N (by omega) W
      have hl := numS_len N (by omega)
      generalize numS N = sN at *
      have hl2 : (9223372036854775807 < 1 + sN.size) = False := by simp; omega
      have d1 : decide (-(N : Int) < 0) = true := decide_eq_true hn
      have hn1 : (N : Int) ≤ 9223372036854775807 := by omega
      have hn2 : 0 < N := by omega
      clear h hi0 hi1 hn
      go_enter Tryz.func173, Tryz.ntmps173
      go_wp2_with (first | (go_at_call 75; ((with_reducible refine (W1 _).mono ?_); rintro e w1 ⟨rfl, rfl⟩)) | (go_at_call 182; ((with_reducible refine (c1 _).mono ?_); rintro e w1 ⟨rfl, hb⟩)))
      go_returns
      exact ⟨rfl, hb⟩
    · obtain ⟨N, rfl⟩ : ∃ N : Nat, n = N := ⟨n.natAbs, by omega⟩
      rw [if_neg hn, Int.natAbs_natCast]
      have c1 := fun W => digits_c N (by omega) W
      generalize numS N = sN at *
      have d1 : decide ((N : Int) < 0) = false := decide_eq_false hn
      have hn1 : (N : Int) ≤ 9223372036854775807 := by omega
      clear h hi0 hi1
      go_enter Tryz.func173, Tryz.ntmps173
      go_wp2_with (first | (go_at_call 75; ((with_reducible refine (W1 _).mono ?_); rintro e w1 ⟨rfl, rfl⟩)) | (go_at_call 182; ((with_reducible refine (c1 _).mono ?_); rintro e w1 ⟨rfl, hb⟩)))
      go_returns
      exact ⟨rfl, hb⟩
  · rw [decide_eq_false h] at W1
    rw [if_neg h]
    clear h
    go_enter Tryz.func173, Tryz.ntmps173
    go_wp2_with (go_at_call 75; ((with_reducible refine (W1 _).mono ?_); rintro e w1 ⟨rfl, rfl⟩))
    go_returns
    exact ⟨rfl, Below.refl _ _⟩

end Go.Proofs.YtaimekaagmcmnaaGreat

/- The program's lexer: its state; isBlank, starts, word. -/
namespace Go.Proofs.YtaimekaagmcmnaaGreat
open Go.RowKit
set_option linter.unusedVariables false
set_option linter.unusedSimpArgs false
attribute [local go_sem] Ext.cell

structure LxS (w : World) (b : Nat) (s : ByteArray) (k : Nat) (lv : Value) : Prop where
  row : RowAt w b 0 [.string s, .int .i64 (k : Int), lv, .int .i64 0]
  wr : Wr w b 0 4
theorem LxS.lt {w : World} {b : Nat} {s : ByteArray} {k : Nat} {lv : Value} (h : LxS w b s k lv) : b < w.heap.size := World.block_lt_of_cell? _ _ h.row.box4.1
theorem LxS.below {w w' : World} {b : Nat} {s : ByteArray} {k : Nat} {lv : Value} (h : LxS w b s k lv) (hb : Below w.heap.size w w') : LxS w' b s k lv := ⟨h.row.below hb, h.wr.below hb⟩
theorem LxS.kept {S : Nat → Prop} {w w' : World} {b : Nat} {s : ByteArray} {k : Nat} {lv : Value} (h : LxS w b s k lv) (hk : Kept S w w') (hS : ¬ S b) : LxS w' b s k lv := ⟨h.row.kept hk hS, h.wr.kept hk hS⟩
theorem LxS.setAt {w : World} {b : Nat} {s : ByteArray} {k j : Nat} {lv : Value} (h : LxS w b s k lv) : LxS (w.setCell ⟨b, 1, none⟩ (.int .i64 (j : Int))) b s j lv := ⟨h.row.putAt (j := 1) (by simp) _, h.wr.set 1 _⟩
theorem LxS.setList {w : World} {b : Nat} {s : ByteArray} {k : Nat} {lv : Value} (h : LxS w b s k lv) (u : Value) : LxS (w.setCell ⟨b, 2, none⟩ u) b s k u := ⟨h.row.putAt (j := 2) (by simp) _, h.wr.set 2 _⟩
def placeX (b : Nat) (w : World) : Nat := match w.cell? ⟨b, 1, none⟩ with
  | some (.int _ z) => z.toNat
  | _ => 0
theorem LxS.place {w : World} {b : Nat} {s : ByteArray} {k : Nat} {lv : Value} (h : LxS w b s k lv) : placeX b w = k := by
  unfold placeX
  rw [h.row.box4.2.1]
  simp
def restB (s : ByteArray) (k : Nat) : List UInt8 := s.data.toList.drop k
theorem byte_at2 {s : ByteArray} {k : Nat} (h : k < s.size) : s.data.toList[k]'h = s[k] := by rw [Array.getElem_toList]; rfl
theorem restB_cons {s : ByteArray} {k : Nat} (h : k < s.size) : restB s k = s[k] :: restB s (k + 1) := by
  unfold restB
  rw [List.drop_eq_getElem_cons (show k < s.data.toList.length from h), byte_at2 h]
theorem restB_nil {s : ByteArray} {k : Nat} (h : s.size ≤ k) : restB s k = [] := List.drop_of_length_le h
theorem restB_drop (s : ByteArray) (k j : Nat) : (restB s k).drop j = restB s (k + j) := by unfold restB; rw [List.drop_drop]
theorem restB_len (s : ByteArray) (k : Nat) : (restB s k).length = s.size - k := by unfold restB; rw [List.length_drop]; rfl
theorem preB_take (t l : List UInt8) : preB t l = (l.take t.length == t) := by
  unfold preB
  rw [Bool.eq_iff_iff, List.isPrefixOf_iff_prefix, beq_iff_eq, List.prefix_iff_eq_take]
  exact eq_comm
theorem preB_far {s t : ByteArray} {k : Nat} (h0 : 0 < t.size) (h : s.size < k + t.size) : preB t.data.toList (restB s k) = false := by
  rw [preB_take, beq_eq_false_iff_ne]
  intro e
  have := congrArg List.length e
  rw [List.length_take, restB_len] at this
  have e2 : t.data.toList.length = t.size := rfl
  omega
theorem preB_near {s t : ByteArray} {k : Nat} (h : k + t.size ≤ s.size) : ((s.extract k (k + t.size)).toList == t.toList) = preB t.data.toList (restB s k) := by
  rw [preB_take, ByteArray.toList_eq, ByteArray.toList_eq, ByteArray.data_extract, Array.toList_extract]
  unfold restB
  have e2 : k + t.size - k = t.data.toList.length := by show k + t.size - k = t.size; omega
  show ((s.data.toList.drop k).take (k + t.size - k) == _) = _
  rw [e2]
theorem wordL_stop {s : ByteArray} {k : Nat} (h : k < s.size) (hb : wordB s[k].toNat = false) : wordL (restB s k) = [] := by
  rw [restB_cons h]; simp [wordL, hb]
theorem wordL_go {s : ByteArray} {k : Nat} (h : k < s.size) (hb : wordB s[k].toNat = true) : wordL (restB s k) = s[k] :: wordL (restB s (k + 1)) := by
  rw [restB_cons h]; simp [wordL, hb]
theorem wordL_nil {s : ByteArray} {k : Nat} (h : s.size ≤ k) : wordL (restB s k) = [] := by rw [restB_nil h]; rfl
theorem word_extract (s : ByteArray) (k : Nat) : s.extract k (k + (wordL (restB s k)).length) = baL (wordL (restB s k)) := by
  apply ByteArray.ext
  apply Array.ext'
  rw [ByteArray.data_extract, Array.toList_extract]
  show ((restB s k).take (k + (wordL (restB s k)).length - k)) = wordL (restB s k)
  rw [Nat.add_sub_cancel_left]
  have : wordL (restB s k) <+: restB s k := List.takeWhile_prefix _
  exact (List.prefix_iff_eq_take.1 this).symm
theorem wordL_le (s : ByteArray) {k : Nat} (h : k ≤ s.size) : k + (wordL (restB s k)).length ≤ s.size := by
  have : wordL (restB s k) <+: restB s k := List.takeWhile_prefix _
  have := this.length_le
  rw [restB_len] at this
  omega

set_option maxRecDepth 100000 in
set_option maxHeartbeats 4000000 in
theorem isBlank_c (n : Int) (w : World) : Calls Tryz.prog 131 #[.int .u8 n] w fun e w' => e = .returned (.bool (blankB n)) ∧ w = w' := by
  have e : ∀ c : Int, decide (n = c) = (n == c) := fun c => by
    by_cases h : n = c
    · subst h; simp
    · rw [decide_eq_false h, beq_eq_false_iff_ne.2 h]
  have e2 : blankB n = ((((n == 9) || (n == 10)) || (n == 13)) || (n == 32)) := by
    unfold blankB
    rw [e, e, e, e]
  rw [e2]
  clear e e2
  generalize h1 : (n == 9) = q1
  generalize h2 : (n == 10) = q2
  generalize h3 : (n == 13) = q3
  generalize h4 : (n == 32) = q4
  cases q1 <;> cases q2 <;> cases q3 <;> cases q4
  all_goals
    go_enter Tryz.func131, Tryz.ntmps131
    go_wp2_with fail
    go_returns
    exact ⟨rfl, rfl⟩

set_option maxRecDepth 100000 in
set_option maxHeartbeats 4000000 in
theorem starts_c (s t : ByteArray) (k b : Nat) (lv : Value) (hs : s.size ≤ 4000) (ht : t.size ≤ 4000) (ht0 : 0 < t.size) (hk : k ≤ s.size) (w : World) (R : LxS w b s k lv) :
    Calls Tryz.prog 132 #[.pointer (some ⟨b, 0, none⟩), .string t] w fun e w' => e = .returned (.bool (preB t.data.toList (restB s k))) ∧ Below w.heap.size w w' := by
  obtain ⟨r_0, r_1, r_2, r_3⟩ := R.row.box4
  have hbl := R.lt
  have p1 : IntKind.i64.wrap ((k : Int) + (t.size : Int)) = (k : Int) + (t.size : Int) := IntWalk.i64_in _ (by omega)
  by_cases hf : s.size < k + t.size
  · rw [preB_far ht0 hf]
    have d1 : decide ((k : Int) + (t.size : Int) ≤ (s.size : Int)) = false := decide_eq_false (by omega)
    go_enter Tryz.func132, Tryz.ntmps132
    go_upto_region 1 with fail
    (refine wp_region_ext_lit (by kernel_rfl) (by kernel_rfl) ?_; (repeat (any_goals (first | go_big_quiet_step (fail) | quiet_step (fail) | (refine wpQuiet_step (fun K hK => ?_); go_simp; split <;> (refine hK _ ?_; clear hK K))))); all_goals (refine wpQuiet_nil ?_; rintro w1 ⟨⟨_, hb1⟩, rfl⟩))
    go_wp2_with fail
    go_returns
    exact ⟨rfl, hb1⟩
  · rw [← preB_near (by omega : k + t.size ≤ s.size)]
    have d1 : decide ((k : Int) + (t.size : Int) ≤ (s.size : Int)) = true := decide_eq_true (by omega)
    have q1 : (0 : Int) ≤ (k : Int) + (t.size : Int) := by omega
    have q2 : (k : Int) ≤ (k : Int) + (t.size : Int) := by omega
    have q3 : (k : Int) + (t.size : Int) ≤ (s.size : Int) := by omega
    have q4 : ((k : Int) + (t.size : Int)).toNat = k + t.size := by omega
    go_enter Tryz.func132, Tryz.ntmps132
    go_upto_region 1 with fail
    (refine wp_region_ext_lit (by kernel_rfl) (by kernel_rfl) ?_; (repeat (any_goals (first | go_big_quiet_step (fail) | quiet_step (fail) | (refine wpQuiet_step (fun K hK => ?_); go_simp; split <;> (refine hK _ ?_; clear hK K))))); all_goals (refine wpQuiet_nil ?_; rintro w1 ⟨⟨_, hb1⟩, rfl⟩))
    go_wp2_with fail
    go_returns
    exact ⟨rfl, hb1⟩

set_option maxRecDepth 100000 in
set_option maxHeartbeats 8000000 in
theorem word_c (s : ByteArray) (k b : Nat) (lv : Value) (hs : s.size ≤ 4000) (hk : k ≤ s.size) (w : World) (R : LxS w b s k lv) :
    Calls Tryz.prog 155 #[.pointer (some ⟨b, 0, none⟩)] w fun e w' => e = .returned (.string (baL (wordL (restB s k)))) ∧ Below w.heap.size w w' := by
  obtain ⟨r_0, r_1, r_2, r_3⟩ := R.row.box4
  have hbl := R.lt
  have hex := word_extract s k
  have hle := wordL_le s hk
  obtain ⟨q, hq⟩ : ∃ q, q = k + (wordL (restB s k)).length := ⟨_, rfl⟩
  have hq0 : Hid (k + (wordL (restB s k)).length = q) := hq.symm
  rw [← hq] at hex hle
  rw [← hex]
  clear hex
  have hkq : k ≤ q := by omega
  replace hq := Lib.hid hq
  go_enter Tryz.func155, Tryz.ntmps155
  go_wp2_with fail
  go_loopw [3] (fun z wr => ∃ p : Nat, k ≤ p ∧ p ≤ q ∧ z = .int .i64 p ∧ Hid (p + (wordL (restB s p)).length = q) ∧ Below w.heap.size w wr) (fun z _ => s.size - (intOf z).toNat)
  case atStart => exact ⟨k, by omega, by omega, rfl, hq0, Below.refl _ _⟩
  case round =>
    obtain ⟨p, hp0, hp1, rfl, hpq, hw⟩ := hrel
    have R1 := R.below hw
    clear r_0 r_1 r_2 r_3
    obtain ⟨r_0, r_1, r_2, r_3⟩ := R1.row.box4
    have hbl1 := R1.lt
    by_cases hlt : p < s.size
    · have d1 : decide ((p : Int) < (s.size : Int)) = true := decide_eq_true (by omega)
      obtain ⟨bv, hbv⟩ : ∃ q, wordB s[p].toNat = q := ⟨_, rfl⟩
      have cw := isWord_c (s[p].toNat : Int)
      rw [hbv] at cw
      replace cw := Lib.hid cw
      cases bv
      · have h1 := wordL_stop hlt hbv
        have hpe : p = q := by have h := hpq.out; rw [h1] at h; exact h
        replace hbv := Lib.hid hbv
        clear h1 hpq
        subst hpe
        go_upto_region 4 with (go_at_call 113; (with_reducible refine (cw.out _).mono ?_); rintro e w2 ⟨rfl, rfl⟩)
        (refine wp_region_ext_lit (by kernel_rfl) (by kernel_rfl) ?_; (repeat (any_goals (first | go_big_quiet_step (fail) | quiet_step (fail) | (refine wpQuiet_step (fun K hK => ?_); go_simp; split <;> (refine hK _ ?_; clear hK K))))); all_goals (refine wpQuiet_nil ?_; rintro w1 ⟨⟨_, hb1⟩, rfl⟩))
        go_wp2_with fail
        go_returns
        exact ⟨rfl, hw.trans (hb1.mono hw.size)⟩
      · have h1 := wordL_go hlt hbv
        have hpq1 : Hid (p + 1 + (wordL (restB s (p + 1))).length = q) := by
          show _ = _
          have h := hpq.out
          rw [h1] at h
          simp only [List.length_cons] at h
          omega
        have hpq2 : p + 1 ≤ q := by have := hpq1.out; omega
        replace hbv := Lib.hid hbv
        clear h1 hpq
        go_wp2_with (go_at_call 113; (with_reducible refine (cw.out _).mono ?_); rintro e w2 ⟨rfl, rfl⟩)
        go_roundw
        case rel => exact ⟨p + 1, by omega, hpq2, by go_num, hpq1, hw⟩
        case measure => simp [intOf]; omega
    · have hpe : p = q := by have h := hpq.out; rw [wordL_nil (by omega : s.size ≤ p)] at h; exact h
      clear hpq
      subst hpe
      have d1 : decide ((p : Int) < (s.size : Int)) = false := decide_eq_false (by omega)
      go_upto_region 4 with fail
      (refine wp_region_ext_lit (by kernel_rfl) (by kernel_rfl) ?_; (repeat (any_goals (first | go_big_quiet_step (fail) | quiet_step (fail) | (refine wpQuiet_step (fun K hK => ?_); go_simp; split <;> (refine hK _ ?_; clear hK K))))); all_goals (refine wpQuiet_nil ?_; rintro w1 ⟨⟨_, hb1⟩, rfl⟩))
      go_wp2_with fail
      go_returns
      exact ⟨rfl, hw.trans (hb1.mono hw.size)⟩
end Go.Proofs.YtaimekaagmcmnaaGreat

/- The program's lexer: symbol. -/
namespace Go.Proofs.YtaimekaagmcmnaaGreat
open Go.RowKit
set_option linter.unusedVariables false
set_option linter.unusedSimpArgs false
attribute [local go_sem] Ext.cell

def sym2S : List ByteArray := [⟨#[45, 62]⟩, ⟨#[60, 62]⟩, ⟨#[60, 61]⟩, ⟨#[58, 61]⟩, ⟨#[58, 58]⟩]
theorem sym2S_get {j : Nat} {t : ByteArray} (h : sym2S[j]? = some t) : sym2[j]? = some t.data.toList ∧ t.size = 2 := by
  have hj : j < 5 := by have := (List.getElem?_eq_some_iff.1 h).1; simpa [sym2S] using this
  match j, hj with
  | 0, _ => simp [sym2S] at h; subst h; exact ⟨rfl, rfl⟩
  | 1, _ => simp [sym2S] at h; subst h; exact ⟨rfl, rfl⟩
  | 2, _ => simp [sym2S] at h; subst h; exact ⟨rfl, rfl⟩
  | 3, _ => simp [sym2S] at h; subst h; exact ⟨rfl, rfl⟩
  | 4, _ => simp [sym2S] at h; subst h; exact ⟨rfl, rfl⟩
theorem find_first {α : Type} {p : α → Bool} : ∀ {l : List α} {j : Nat} {x : α}, l[j]? = some x → p x = true → (∀ i < j, ∀ y, l[i]? = some y → p y = false) → l.find? p = some x
  | [], j, x, h, _, _ => by simp at h
  | a :: l, 0, x, h, hp, _ => by simp at h; subst h; simp [hp]
  | a :: l, j + 1, x, h, hp, hb => by
    have h0 := hb 0 (by omega) a rfl
    rw [List.find?_cons_of_neg (by simp [h0])]
    exact find_first (by simpa using h) hp fun i hi y hy => hb (i + 1) (by omega) y (by simpa using hy)
theorem find_none {α : Type} {p : α → Bool} {l : List α} (h : ∀ (i : Nat) y, l[i]? = some y → p y = false) : l.find? p = none := by
  rw [List.find?_eq_none]
  intro x hx
  obtain ⟨i, hi⟩ := List.getElem?_of_mem hx
  simp [h i x hi]
theorem symL_two {l : List UInt8} {j : Nat} {t : List UInt8} (h : sym2[j]? = some t) (hp : preB t l = true) (hb : ∀ i < j, ∀ y, sym2[i]? = some y → preB y l = false) : symL l = t := by
  unfold symL
  rw [find_first (p := fun t => preB t l) h hp hb]
theorem symL_one {x : UInt8} {r : List UInt8} (hb : ∀ (i : Nat) y, sym2[i]? = some y → preB y (x :: r) = false) : symL (x :: r) = if sym1.contains x then [x] else [] := by
  unfold symL
  rw [find_none (p := fun t => preB t (x :: r)) hb]
theorem u8_eq {x y : UInt8} : ((x.toNat : Int) == (y.toNat : Int)) = (x == y) := by
  by_cases h : x = y
  · subst h; simp
  · have : (x.toNat : Int) ≠ (y.toNat : Int) := fun h' => h (UInt8.toNat_inj.1 (by omega))
    rw [beq_eq_false_iff_ne.2 this, beq_eq_false_iff_ne.2 h]
def symRow : List Value := [.int .u8 40, .int .u8 41, .int .u8 91, .int .u8 93, .int .u8 44, .int .u8 59, .int .u8 124, .int .u8 61, .int .u8 60, .int .u8 43, .int .u8 45, .int .u8 42, .int .u8 47, .int .u8 37, .int .u8 94, .int .u8 33, .int .u8 95]
theorem symRow_get {j : Nat} (h : j < 17) : ∃ x : UInt8, sym1[j]? = some x ∧ symRow[j]? = some (.int .u8 (x.toNat : Int)) := by
  have e : symRow = sym1.map fun x => Value.int .u8 (x.toNat : Int) := by rfl
  obtain ⟨x, hx⟩ : ∃ x, sym1[j]? = some x := ⟨_, List.getElem?_eq_getElem (by simpa [sym1] using h)⟩
  exact ⟨x, hx, by rw [e, List.getElem?_map, hx]; rfl⟩
theorem has_one {x : UInt8} {j : Nat} (h : sym1[j]? = some x) : sym1.contains x = true := by
  rw [List.contains_iff_mem]; exact List.mem_of_getElem? h
theorem has_none {x : UInt8} (h : ∀ (i : Nat) y, sym1[i]? = some y → (x == y) = false) : sym1.contains x = false := by
  rw [← Bool.not_eq_true, List.contains_iff_mem]
  intro hm
  obtain ⟨i, hi⟩ := List.getElem?_of_mem hm
  have := h i x hi
  simp at this

theorem conv_byte (W : World) (g : Nat) (x : UInt8) (h : W.cell? ⟨g, 0, none⟩ = some (.int .u8 (x.toNat : Int))) : (convert 101 9 (Value.slice (some ⟨g, 0, none⟩) 1 1)).run Tryz.prog W = .ok (.string (baL [x])) W := by
  refine run_convert_bytes_back (P := Tryz.prog) _ 101 9 5 ⟨g, 0, none⟩ 1 [x] Tryz.underlying101 Tryz.underlying5 Tryz.underlying9 (fun j hj => ?_)
  obtain rfl : j = 0 := by simp at hj; exact hj
  exact h
theorem RowAt.box_fr (w : World) (cs : Array Value) (t : TypeId) (fr : Nat × Nat) : RowAt (w.alloc (.cells cs t fr)) w.heap.size 0 cs.toList := fun j c hc => by
  rw [Nat.zero_add]
  rw [cell_of_row (w.alloc (.cells cs t fr)) w.heap.size j cs t fr (heap_alloc_new w _), ← Array.getElem?_toList]
  exact hc
set_option maxRecDepth 100000 in
set_option maxHeartbeats 8000000 in
theorem symbol_c (s : ByteArray) (k b : Nat) (lv : Value) (hs : s.size ≤ 4000) (hk : k < s.size) (w : World) (R : LxS w b s k lv) :
    Calls Tryz.prog 159 #[.pointer (some ⟨b, 0, none⟩)] w fun e w' => e = .returned (.string (baL (symL (restB s k)))) ∧ Below w.heap.size w w' := by
  have hl := restB_cons hk
  have cS := fun (t : ByteArray) (h2 : t.size = 2) W (hW : Below w.heap.size w W) => starts_c s t k b lv hs (by omega) (by omega) (by omega) W (R.below hW)
  replace cS := Lib.hid cS; replace hl := Lib.hid hl
  go_enter Tryz.func159, Tryz.ntmps159
  go_upto_region 1 with fail
  go_upto_region 2 with fail
  obtain ⟨w1, hW1⟩ : ∃ W, W = w.alloc (.cells #[.string ⟨#[45, 62]⟩, .string ⟨#[60, 62]⟩, .string ⟨#[60, 61]⟩, .string ⟨#[58, 61]⟩, .string ⟨#[58, 58]⟩] 9) := ⟨_, rfl⟩
  rw [← hW1]
  have hw1 : Below w.heap.size w w1 := by rw [hW1]; go_grown
  have K1 : RowAt w1 w.heap.size 0 (sym2S.map Value.string) := by rw [hW1]; exact RowAt.box w #[.string ⟨#[45, 62]⟩, .string ⟨#[60, 62]⟩, .string ⟨#[60, 61]⟩, .string ⟨#[58, 61]⟩, .string ⟨#[58, 58]⟩] _
  clear hW1
  go_loopw [9] (fun ii wr => ∃ j : Nat, j ≤ 5 ∧ ii = .int .i64 j ∧ Below w.heap.size w wr ∧ RowAt wr w.heap.size 0 (sym2S.map Value.string) ∧ Hid (∀ i < j, ∀ y, sym2[i]? = some y → preB y (restB s k) = false)) (fun ii _ => 5 - (intOf ii).toNat)
  case atStart => exact ⟨0, by omega, rfl, hw1, K1, fun i hi => by omega⟩
  case round =>
    clear K1 hw1
    obtain ⟨j, hj, rfl, hw, K, hno⟩ := hrel
    have hz := hw.size
    by_cases hj5 : j < 5
    · obtain ⟨t, ht⟩ : ∃ t, sym2S[j]? = some t := ⟨_, List.getElem?_eq_getElem (by simpa [sym2S] using hj5)⟩
      obtain ⟨ht2, hts⟩ := sym2S_get ht
      have e0 : wr.cell? ⟨w.heap.size, j, none⟩ = some (.string t) := by
        have := K j (.string t) (by rw [List.getElem?_map, ht]; rfl)
        rw [Nat.zero_add] at this; exact this
      have hbe := World.block_lt_of_cell? _ _ e0; dsimp only at hbe
      have cS1 := cS.out t hts wr hw
      obtain ⟨q, hq⟩ : ∃ q, preB t.data.toList (restB s k) = q := ⟨_, rfl⟩
      rw [hq] at cS1
      replace cS1 := Lib.hid cS1; replace ht := Lib.hid ht
      cases q
      · have hno1 : Hid (∀ i < j + 1, ∀ y, sym2[i]? = some y → preB y (restB s k) = false) := fun i hi y hy => by
          by_cases e : i = j
          · subst e
            rw [ht2] at hy
            obtain rfl := Option.some.inj hy
            exact hq
          · exact hno.out i (by omega) y hy
        replace hq := Lib.hid hq; replace ht2 := Lib.hid ht2
        go_wp2_with (go_at_call 132; (with_reducible refine (cS1.out).mono ?_); rintro e w2 ⟨rfl, hb2⟩)
        go_roundw
        case rel => exact ⟨j + 1, by omega, by go_num, hw.trans (hb2.mono hz), K.below hb2, hno1⟩
        case measure => simp [intOf]; omega
      · have hsy := symL_two ht2 hq hno.out
        have hba : baL (symL (restB s k)) = t := by rw [hsy]; rfl
        replace hq := Lib.hid hq; replace ht2 := Lib.hid ht2; replace hsy := Lib.hid hsy; replace hba := Lib.hid hba
        go_wp2_with (go_at_call 132; (with_reducible refine (cS1.out).mono ?_); rintro e w2 ⟨rfl, hb2⟩)
        go_returns
        exact ⟨by rw [hba.out]; rfl, hw.trans (hb2.mono hz)⟩
    · obtain rfl : j = 5 := by omega
      have hnone : ∀ (i : Nat) y, sym2[i]? = some y → preB y (restB s k) = false := fun i y hy => hno.out i (by have := (List.getElem?_eq_some_iff.1 hy).1; simpa [sym2] using this) y hy
      have hone : symL (restB s k) = if sym1.contains s[k] then [s[k]] else [] := by
        rw [hl.out] at hnone ⊢
        exact symL_one hnone
      have R1 := R.below hw
      replace hnone := Lib.hid hnone; replace hone := Lib.hid hone
      have hcs := Lib.run_convert_bytes_const (P := Tryz.prog) wr 101 5 #[.int .u8 40, .int .u8 41, .int .u8 91, .int .u8 93, .int .u8 44, .int .u8 59, .int .u8 124, .int .u8 61, .int .u8 60, .int .u8 43, .int .u8 45, .int .u8 42, .int .u8 47, .int .u8 37, .int .u8 94, .int .u8 33, .int .u8 95] 17 17 Tryz.underlying101 Tryz.underlying5
      go_upto_region 8 with fail
      clear hcs
      obtain ⟨w2, hW2⟩ : ∃ W, W = wr.alloc (.cells #[.int .u8 40, .int .u8 41, .int .u8 91, .int .u8 93, .int .u8 44, .int .u8 59, .int .u8 124, .int .u8 61, .int .u8 60, .int .u8 43, .int .u8 45, .int .u8 42, .int .u8 47, .int .u8 37, .int .u8 94, .int .u8 33, .int .u8 95] 5 (17, 18)) := ⟨_, rfl⟩
      rw [← hW2]
      have hw2 : Below w.heap.size w w2 := by rw [hW2]; exact hw.trans (Below.mono (by go_grown) hz)
      have K2 : RowAt w2 wr.heap.size 0 symRow := by rw [hW2]; exact RowAt.box_fr wr #[_, _, _, _, _, _, _, _, _, _, _, _, _, _, _, _, _] _ _
      have R2 : LxS w2 b s k lv := by rw [hW2]; exact R1.below (by go_grown)
      obtain ⟨g, hg⟩ : ∃ g, g = wr.heap.size := ⟨_, rfl⟩
      rw [← hg] at K2 ⊢
      clear hW2 R1 K hno hg
      go_loopw [21] (fun ii wr2 => ∃ j : Nat, j ≤ 17 ∧ ii = .int .i64 j ∧ Below w.heap.size w wr2 ∧ RowAt wr2 g 0 symRow ∧ LxS wr2 b s k lv ∧ Hid (∀ i < j, ∀ y, sym1[i]? = some y → (s[k] == y) = false)) (fun ii _ => 17 - (intOf ii).toNat)
      case atStart => exact ⟨0, by omega, rfl, hw2, K2, R2, fun i hi => by omega⟩
      case round =>
        clear K2 hw2 R2 R
        obtain ⟨j, hj, rfl, hw2, K2, R2, hno⟩ := hrel
        have hz2 := hw2.size
        obtain ⟨r_0, r_1, r_2, r_3⟩ := R2.row.box4
        have hbl := R2.lt
        by_cases hj5 : j < 17
        · obtain ⟨x, hx1, hx2⟩ := symRow_get hj5
          have e0 : wr.cell? ⟨g, j, none⟩ = some (.int .u8 (x.toNat : Int)) := by
            have := K2 j _ hx2
            rw [Nat.zero_add] at this; exact this
          have hbe := World.block_lt_of_cell? _ _ e0; dsimp only at hbe
          obtain ⟨q, hq⟩ : ∃ q, ((s[k].toNat : Int) == (x.toNat : Int)) = q := ⟨_, rfl⟩
          have hq2 := hq
          rw [u8_eq] at hq2
          cases q
          · have hno1 : Hid (∀ i < j + 1, ∀ y, sym1[i]? = some y → (s[k] == y) = false) := fun i hi y hy => by
              by_cases e : i = j
              · subst e
                rw [hx1] at hy
                obtain rfl := Option.some.inj hy
                exact hq2
              · exact hno.out i (by omega) y hy
            replace hq2 := Lib.hid hq2; replace hx1 := Lib.hid hx1; replace hx2 := Lib.hid hx2
            go_upto_region 10 with fail
            (refine wp_region_ext_lit (by kernel_rfl) (by kernel_rfl) ?_; (repeat (any_goals (first | go_big_quiet_step (fail) | quiet_step (fail) | (refine wpQuiet_step (fun K hK => ?_); go_simp; split <;> (refine hK _ ?_; clear hK K))))); all_goals (refine wpQuiet_nil ?_; rintro w3 ⟨⟨_, hb3⟩, rfl⟩))
            go_wp2_with fail
            go_roundw
            case rel => exact ⟨j + 1, by omega, by go_num, hw2.trans (hb3.mono hz2), K2.below hb3, R2.below hb3, hno1⟩
            case measure => simp [intOf]; omega
          · have hxx : s[k] = x := by simpa using hq2
            have hsy : baL (symL (restB s k)) = baL [x] := by
              rw [hone.out, hxx, if_pos (has_one hx1)]
            replace hq2 := Lib.hid hq2; replace hx1 := Lib.hid hx1; replace hx2 := Lib.hid hx2; replace hsy := Lib.hid hsy; replace hxx := Lib.hid hxx
            go_upto_region 10 with fail
            (refine wp_region_ext_lit (by kernel_rfl) (by kernel_rfl) ?_; (repeat (any_goals (first | go_big_quiet_step (fail) | quiet_step (fail) | (refine wpQuiet_step (fun K hK => ?_); go_simp; split <;> (refine hK _ ?_; clear hK K))))); all_goals (refine wpQuiet_nil ?_; rintro w3 ⟨⟨_, hb3⟩, rfl⟩))
            have hrun := conv_byte (w3.alloc (.cells #[.int .u8 (x.toNat : Int)] 5)) w3.heap.size x (by simp [go_sem])
            have hw3 := hw2.trans (hb3.mono hz2)
            generalize baL [x] = sx at *
            go_wp2_with fail
            go_returns
            exact ⟨by rw [hsy.out]; rfl, hw3.trans (Below.mono (by go_grown) hw3.size)⟩
        · obtain rfl : j = 17 := by omega
          have hsy : baL (symL (restB s k)) = ⟨#[]⟩ := by
            rw [hone.out, has_none (fun i y hy => hno.out i (by have := (List.getElem?_eq_some_iff.1 hy).1; simpa [sym1] using this) y hy)]
            rfl
          replace hsy := Lib.hid hsy
          go_wp2_with fail
          go_returns
          exact ⟨by rw [hsy.out]; rfl, hw2⟩
end Go.Proofs.YtaimekaagmcmnaaGreat

/- The program's lexer: TextNum of one digit; a token. -/
namespace Go.Proofs.YtaimekaagmcmnaaGreat
open Go.RowKit
set_option linter.unusedVariables false
set_option linter.unusedSimpArgs false
attribute [local go_sem] Ext.cell

theorem numText01 : numText 0 = ⟨#[48]⟩ ∧ numText 1 = ⟨#[49]⟩ := by
  constructor <;> (unfold numText; rw [if_pos (by omega), if_neg (by omega)]; rw [show Int.natAbs _ = _ from rfl, numS_small (by omega)]; rfl)
theorem numL01_ways {l : List UInt8} {n : Int} (h : numL01 l = some n) : (l = [48] ∧ n = 0) ∨ (l = [49] ∧ n = 1) := by
  unfold numL01 at h
  split at h
  · rename_i e; exact .inl ⟨e, (Option.some.inj h).symm⟩
  · split at h
    · rename_i e; exact .inr ⟨e, (Option.some.inj h).symm⟩
    · cases h
set_option maxRecDepth 100000 in
set_option maxHeartbeats 8000000 in
theorem textNum01_c (l : List UInt8) (n : Int) (h : numL01 l = some n) (w : World) : Calls Tryz.prog 156 #[.string (baL l)] w fun e w' => e = .returned (.tuple #[.int .i64 n, .bool true]) ∧ Below w.heap.size w w' := by
  obtain ⟨t0, t1⟩ := numText01
  rcases numL01_ways h with ⟨rfl, rfl⟩ | ⟨rfl, rfl⟩
  · have cN := fun W => impl_NumText_c 0 ⟨by decide, by decide⟩ W
    rw [t0] at cN
    have cD := fun W => isDigit_c 48 W
    rw [show digB 48 = true from rfl] at cD
    replace cN := Lib.hid cN; replace cD := Lib.hid cD
    clear t0 t1 h
    have hby : ((⟨#[48]⟩ : ByteArray)[0]'(by decide)).toNat = 48 := rfl
    show Calls Tryz.prog 156 #[.string ⟨#[48]⟩] w _
    go_enter Tryz.func156, Tryz.ntmps156
    go_wp2_with fail
    go_loopw [5, 6] (fun nn ii wr => ∃ j : Nat, j ≤ 1 ∧ nn = .int .i64 0 ∧ ii = .int .i64 j ∧ Below w.heap.size w wr) (fun _ ii _ => 1 - (intOf ii).toNat)
    case atStart => exact ⟨0, by omega, rfl, rfl, Below.refl _ _⟩
    case round =>
      obtain ⟨j, hj, rfl, rfl, hw⟩ := hrel
      by_cases hj1 : j = 0
      · subst hj1
        go_wp2_with (go_at_call 130; (with_reducible refine (cD.out _).mono ?_); rintro e w2 ⟨rfl, rfl⟩)
        go_roundw
        case rel => exact ⟨1, by omega, rfl, by go_num, hw⟩
        case measure => simp [intOf]
      · obtain rfl : j = 1 := by omega
        go_wp2_with (go_at_call 173; (with_reducible refine (cN.out _).mono ?_); rintro e w2 ⟨rfl, hb2⟩)
        go_returns
        exact ⟨rfl, hw.trans (hb2.mono hw.size)⟩
  · have cN := fun W => impl_NumText_c 1 ⟨by decide, by decide⟩ W
    rw [t1] at cN
    have cD := fun W => isDigit_c 49 W
    rw [show digB 49 = true from rfl] at cD
    replace cN := Lib.hid cN; replace cD := Lib.hid cD
    clear t0 t1 h
    have hby : ((⟨#[49]⟩ : ByteArray)[0]'(by decide)).toNat = 49 := rfl
    show Calls Tryz.prog 156 #[.string ⟨#[49]⟩] w _
    go_enter Tryz.func156, Tryz.ntmps156
    go_wp2_with fail
    go_loopw [5, 6] (fun nn ii wr => ∃ j : Nat, j ≤ 1 ∧ nn = .int .i64 j ∧ ii = .int .i64 j ∧ Below w.heap.size w wr) (fun _ ii _ => 1 - (intOf ii).toNat)
    case atStart => exact ⟨0, by omega, rfl, rfl, Below.refl _ _⟩
    case round =>
      obtain ⟨j, hj, rfl, rfl, hw⟩ := hrel
      by_cases hj1 : j = 0
      · subst hj1
        go_wp2_with (go_at_call 130; (with_reducible refine (cD.out _).mono ?_); rintro e w2 ⟨rfl, rfl⟩)
        go_roundw
        case rel => exact ⟨1, by omega, by go_num, by go_num, hw⟩
        case measure => simp [intOf]
      · obtain rfl : j = 1 := by omega
        go_wp2_with (go_at_call 173; (with_reducible refine (cN.out _).mono ?_); rintro e w2 ⟨rfl, hb2⟩)
        go_returns
        exact ⟨rfl, hw.trans (hb2.mono hw.size)⟩
end Go.Proofs.YtaimekaagmcmnaaGreat
