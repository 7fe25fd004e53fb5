/- Parts of the proof, merged: Kept, Own, Within, Word, Con, Shape, DNode, Find. -/
import Derived.Deep.AppendLies
import Derived.Test.YtpblhonnknmjjaaRows
import Derived.Shelf.Abstract
import Derived.Test.YtpblhonnknmjjaaFd01
/- What may be written, what is kept, what is written; digits. No program is named here. -/
namespace Go.Proofs.Ytpblhonnknmjjaa
open Go.RowKit
set_option linter.unusedVariables false
set_option linter.unusedSimpArgs false

/-- The digits of n, ahead of s. -/
def dig (n : Nat) : UInt8 := UInt8.ofNat (48 + n % 10)
def digs (n : Nat) (s : ByteArray) : ByteArray := if n = 0 then s else digs (n / 10) (⟨#[dig n]⟩ ++ s)
def markT (n : Nat) : ByteArray := if n = 0 then ⟨#[109, 48]⟩ else ⟨#[109]⟩ ++ digs n ⟨#[]⟩
theorem digs_zero (s : ByteArray) : digs 0 s = s := by rw [digs]; rfl
theorem digs_pos {n : Nat} (h : n ≠ 0) (s : ByteArray) : digs n s = digs (n / 10) (⟨#[dig n]⟩ ++ s) := by conv => lhs; rw [digs]; rw [if_neg h]

/-! ### What may be written, and what is written -/
/-- The blocks outside S that w has are the same in w'. -/
def Kept (S : Nat → Prop) (w w' : World) : Prop := ∀ k, k < w.heap.size → ¬ S k → w'.heap[k]? = w.heap[k]?
theorem Kept.refl (S : Nat → Prop) (w : World) : Kept S w w := fun _ _ _ => rfl
theorem Kept.trans {S : Nat → Prop} {a b c : World} (h : Kept S a b) (hs : a.heap.size ≤ b.heap.size) (h' : Kept S b c) : Kept S a c := fun k h1 h2 => (h' k (by omega) h2).trans (h k h1 h2)
theorem Kept.below {S : Nat → Prop} {a b : World} (h : Below a.heap.size a b) : Kept S a b := fun k h1 _ => h.block k h1
theorem Kept.set {S : Nat → Prop} {a b : World} (h : Kept S a b) {p : Addr} (hp : S p.block) (u : Value) : Kept S a (b.setCell p u) := fun k h1 h2 =>
  (Below.heap_setCell _ _ _ _ (fun e => h2 (by rw [e]; exact hp))).trans (h k h1 h2)

/-- N cells from off on in block b may be written. -/
def Wr (w : World) (b off N : Nat) : Prop := ∀ j, j < N → ∃ c, w.cell? ⟨b, off + j, none⟩ = some c ∧ w.frozen? ⟨b, off + j, none⟩ = false
theorem Wr.below {w w' : World} {b off N : Nat} (h : Wr w b off N) (hb : Below w.heap.size w w') : Wr w' b off N := fun j hj =>
  let ⟨c, h1, h2⟩ := h j hj
  ⟨c, cell_below hb h1, by rw [hb.frozen (p := ⟨b, off + j, none⟩) (World.block_lt_of_cell? w _ h1), h2]⟩
theorem Wr.set {w : World} {b off N : Nat} (h : Wr w b off N) (o : Nat) (u : Value) : Wr (w.setCell ⟨b, o, none⟩ u) b off N := fun j hj => by
  obtain ⟨c, h1, h2⟩ := h j hj
  by_cases e : o = off + j
  · subst e; exact ⟨u, cell_setCell_eq _ _ _ _ h1, by rw [frozen_setCell, h2]⟩
  · exact ⟨c, by rw [cell_setCell_ne _ _ _ _ _ e, h1], by rw [frozen_setCell, h2]⟩
/-- The N cells from off on in block b are f 0, f 1, .. -/
def Mk (w : World) (b off N : Nat) (f : Nat → Value) : Prop := ∀ j, j < N → w.cell? ⟨b, off + j, none⟩ = some (f j)
theorem Mk.below {w w' : World} {b off N : Nat} {f : Nat → Value} (h : Mk w b off N f) (hb : Below w.heap.size w w') : Mk w' b off N f := fun j hj => cell_below hb (h j hj)
theorem Mk.kept {S : Nat → Prop} {w w' : World} {b off N : Nat} {f : Nat → Value} (h : Mk w b off N f) (hk : Kept S w w') (hS : ¬ S b) : Mk w' b off N f := fun j hj => by
  rw [World.cell?_of_block (w := w) (a := ⟨b, off + j, none⟩) (hk b (World.block_lt_of_cell? w _ (h j hj)) hS)]
  exact h j hj
theorem Mk.step {w : World} {b off N k : Nat} {f : Nat → Value} (h : Mk w b off k f) (hA : Wr w b off N) (hk : k < N) {u : Value} (hu : u = f k) : Mk (w.setCell ⟨b, off + k, none⟩ u) b off (k + 1) f := fun j hj => by
  by_cases e : j = k
  · subst e
    obtain ⟨c, h1, _⟩ := hA j hk
    rw [cell_setCell_eq _ _ _ _ h1, hu]
  · rw [cell_setCell_ne _ _ _ _ _ (by omega)]
    exact h j (by omega)

end Go.Proofs.Ytpblhonnknmjjaa

/- Slices that the call owns, grown by append. -/
namespace Go.Proofs.Ytpblhonnknmjjaa
open Go.RowKit
set_option linter.unusedVariables false
set_option linter.unusedSimpArgs false

theorem own_below {w w' : World} {base : Nat} {e : TypeId} {size : Nat} {v : Value} {n : Nat} {xs : List Value} (h : w.ownsRow base e size v n xs) (hb : Below w.heap.size w w') : w'.ownsRow base e size v n xs := by
  refine ⟨h.1, ?_⟩
  rcases h.2 with h0 | ⟨g, cap, cur, hv, h1, h2, h3⟩
  · exact .inl h0
  · refine .inr ⟨g, cap, cur, hv, h1, ?_, h3⟩
    have hlt : g < w.heap.size := by
      rcases Nat.lt_or_ge g w.heap.size with hlt | hge
      · exact hlt
      · rw [Array.getElem?_eq_none hge] at h2; cases h2
    rw [hb.block g hlt, h2]
theorem own_kept {S : Nat → Prop} {w w' : World} {base : Nat} {e : TypeId} {size : Nat} {v : Value} {n : Nat} {xs : List Value} (h : w.ownsRow base e size v n xs) (hk : Kept S w w') (hS : ∀ g, v.ownBlock = some g → ¬ S g) : w'.ownsRow base e size v n xs := by
  refine ⟨h.1, ?_⟩
  rcases h.2 with h0 | ⟨g, cap, cur, hv, h1, h2, h3⟩
  · exact .inl h0
  · refine .inr ⟨g, cap, cur, hv, h1, ?_, h3⟩
    have hlt : g < w.heap.size := by
      rcases Nat.lt_or_ge g w.heap.size with hlt | hge
      · exact hlt
      · rw [Array.getElem?_eq_none hge] at h2; cases h2
    rw [hk g hlt (hS g (by rw [hv]; rfl)), h2]
theorem own_none {w : World} {base : Nat} {e : TypeId} {size : Nat} : w.ownsRow base e size (.slice none 0 0) 0 [] := ⟨by simp, .inl ⟨rfl, rfl⟩⟩
theorem own_cells {w : World} {base : Nat} {e : TypeId} {size : Nat} {v : Value} {n : Nat} {xs : List Value} (h : w.ownsRow base e size v n xs) (hn : 0 < n) :
    ∃ g cap, v = .slice (some ⟨g, 0, none⟩) n cap ∧ base ≤ g ∧ g < w.heap.size ∧ n ≤ cap ∧ cap ≤ 9223372036854775807 ∧ RowAt w g 0 xs ∧ Wr w g 0 (n * size) := by
  rcases h.2 with ⟨_, h0⟩ | ⟨g, cap, cur, hv, h1, h2, h3, h4, h5, h6⟩
  · omega
  have hlt : g < w.heap.size := by
    rcases Nat.lt_or_ge g w.heap.size with hlt | hge
    · exact hlt
    · rw [Array.getElem?_eq_none hge] at h2; cases h2
  refine ⟨g, cap, hv, h1, hlt, h3, by unfold maxLen at h4; omega, fun j c hc => ?_, fun j hj => ?_⟩
  · rw [cell_of_row w g _ cur e (0, 0) h2, Nat.zero_add, ← Array.getElem?_toList]
    rw [← h6, List.getElem?_take] at hc
    split at hc
    · exact hc
    · cases hc
  · have hjc : j < cur.size := by
      rw [h5]
      exact Nat.lt_of_lt_of_le hj (Nat.mul_le_mul_right _ h3)
    refine ⟨cur[j], ?_, ?_⟩
    · rw [cell_of_row w g _ cur e (0, 0) h2, Nat.zero_add, Array.getElem?_eq_getElem hjc]
    · simp [World.frozen?, h2]
theorem own_sl {α : Type} {R : Reading α} {w : World} {base : Nat} {e : TypeId} {v : Value} {f : α → Value} (xs : List α) (h : w.ownsRow base e 1 v xs.length (xs.map f)) (hf : ∀ x ∈ xs, R base w [f x] x) : Sl R 1 base w v xs := by
  by_cases h0 : 0 < xs.length
  · obtain ⟨g, cap, rfl, h1, h2, h3, h4, h5, h6⟩ := own_cells h h0
    refine ⟨_, cap, rfl, h3, h4, fun _ => ⟨g, 0, h1, rfl, fun i x hx => ⟨[f x], hf x (List.mem_of_getElem? hx), fun j c hc => ?_⟩⟩⟩
    cases j with
    | zero =>
      simp at hc
      subst hc
      have := h5 i (f x) (by rw [List.getElem?_map, hx]; rfl)
      simpa using this
    | succ j => simp at hc
  · have h1 : xs = [] := List.length_eq_zero_iff.1 (by omega)
    subst h1
    rcases h.2 with ⟨rfl, _⟩ | ⟨g, cap, cur, rfl, h1, h2, h3, h4, h5⟩
    · exact Sl.nil
    · exact ⟨_, cap, rfl, h3, by unfold maxLen at h4; omega, fun h => absurd h (by simp)⟩
theorem own_base {w : World} {base : Nat} {e : TypeId} {size : Nat} {v : Value} {n : Nat} {xs : List Value} (h : w.ownsRow base e size v n xs) : ∀ g, v.ownBlock = some g → base ≤ g ∧ g < w.heap.size := fun g hg => by
  rcases h.2 with ⟨rfl, _⟩ | ⟨g', cap, cur, rfl, h1, h2, h3⟩
  · cases hg
  · obtain rfl : g' = g := by simpa [Value.ownBlock] using hg
    refine ⟨h1, ?_⟩
    rcases Nat.lt_or_ge g' w.heap.size with hlt | hge
    · exact hlt
    · rw [Array.getElem?_eq_none hge] at h2; cases h2
theorem kept_grown {w w' : World} {row : Option Nat} (h : w.grownBy w' row) : Kept (fun k => some k = row) w w' := fun k h1 h2 => h.block k h1 h2
theorem below_grown {w w1 w' : World} {base : Nat} {e : TypeId} {size : Nat} {v : Value} {n : Nat} {xs : List Value} (h : Below base w w1) (hb : base ≤ w1.heap.size) (hO : w1.ownsRow base e size v n xs) (hg : w1.grownBy w' v.ownBlock) : Below base w w' :=
  h.grown hg hb (fun k hk => (own_base hO k hk).1)
theorem kept_of {w w1 w' : World} {row : Option Nat} (h : w1.grownBy w' row) (hb : Below w.heap.size w w1) : Kept (fun k => some k = row) w w' := (Kept.below hb).trans hb.size (kept_grown h)
theorem below_grown2 {w wr w1 w' : World} {base : Nat} {e : TypeId} {size : Nat} {v : Value} {n : Nat} {xs : List Value} (hg : w1.grownBy w' v.ownBlock) (hB : Below wr.heap.size wr w1) (h : Below base w wr) (hb : base ≤ wr.heap.size) (hO : wr.ownsRow base e size v n xs) : Below base w w' :=
  below_grown (h.trans (hB.mono hb)) (Nat.le_trans hb hB.size) (own_below hO hB) hg
theorem heap_alloc_new' (w : World) (o : Obj) (k : Nat) (hk : k = w.heap.size) : (w.alloc o).heap[k]? = some o := by subst hk; exact heap_alloc_new w o
/-- A block made now, owned. -/
theorem own_new (w : World) (cs : Array Value) (e : TypeId) (size n : Nat) (h : cs.size = n * size) (hm : n ≤ maxLen) (base : Nat) (hb : base ≤ w.heap.size) : (w.alloc (.cells cs e)).ownsRow base e size (.slice (some ⟨w.heap.size, 0, none⟩) n n) n cs.toList :=
  ⟨by simpa using h, .inr ⟨w.heap.size, n, cs, rfl, hb, heap_alloc_new w _, Nat.le_refl _, hm, h, by rw [← h]; exact List.take_of_length_le (by simp)⟩⟩

end Go.Proofs.Ytpblhonnknmjjaa

/- Ranges of numbers: within, Wrap. -/
namespace Go.Proofs.Ytpblhonnknmjjaa
open Go.RowKit
set_option linter.unusedVariables false
set_option linter.unusedSimpArgs false
attribute [local go_sem] Ext.cell

theorem toList_empty : ByteArray.empty.toList = [] := by rw [ByteArray.toList_eq]; rfl
theorem isEmpty_iff (s : ByteArray) : s.toList.isEmpty = true ↔ s = ByteArray.empty := by
  rw [List.isEmpty_iff]
  constructor
  · intro h
    exact (toList_eq s ByteArray.empty).1 (by rw [h, toList_empty])
  · rintro rfl; exact toList_empty

/-- 63 bits. -/
def wrap63 (n : Int) : Int := (n + 4611686018427387904) % 9223372036854775808 - 4611686018427387904
theorem wrap63_eq (n : Int) : wrap63 n = n ↔ -4611686018427387904 ≤ n ∧ n ≤ 4611686018427387903 := by unfold wrap63; omega

set_option maxHeartbeats 400000 in
theorem within_c (n lo hi : Int) (w : World) :
    Calls Try.prog 41 #[.int .i64 n, .int .i64 lo, .int .i64 hi] w fun e w' => e = .returned (.bool (decide (lo ≤ n ∧ n ≤ hi))) ∧ w = w' := by
  go_enter Try.func41, Try.ntmps41
  go_wp2
  all_goals (go_returns; refine ⟨?_, rfl⟩; simp_all)
  all_goals omega

set_option maxHeartbeats 400000 in
theorem Wrap_c (n : Int) (h : I64 n) (w : World) :
    Calls Try.prog 23 #[.int .i64 n] w fun e w' => e = .returned (.int .i64 (wrap63 n)) ∧ w = w' := by
  obtain ⟨h0, h1⟩ := h
  go_enter Try.func23, Try.ntmps23
  go_wp2
  go_returns
  refine ⟨?_, rfl⟩
  show Ending.returned (Value.int .i64 (wrap64 (n * 2) / 2)) = _
  congr 2
  unfold wrap64 wrap63
  omega

end Go.Proofs.Ytpblhonnknmjjaa

/- Bytes and words: the program's and the reference's tests. -/
namespace Go.Proofs.Ytpblhonnknmjjaa
open Go.RowKit
set_option linter.unusedVariables false
set_option linter.unusedSimpArgs false
attribute [local go_sem] Ext.cell

def lowB (n : Int) : Bool := decide (97 ≤ n ∧ n ≤ 122)
def upB (n : Int) : Bool := decide (65 ≤ n ∧ n ≤ 90)
def digB (n : Int) : Bool := decide (48 ≤ n ∧ n ≤ 57)
def wordB (n : Int) : Bool := lowB n || upB n || digB n || decide (n = 95)
def clsB (n : Int) : Int := if lowB n then 1 else if upB n then 2 else if digB n || decide (n = 95) then 3 else 0
theorem clsB_zero (n : Int) : decide (clsB n = 0) = !wordB n := by
  unfold clsB wordB
  cases lowB n <;> cases upB n <;> cases digB n <;> cases decide (n = 95) <;> simp
theorem clsB_two (n : Int) : decide (clsB n = 2) = upB n := by
  have : lowB n = true → upB n = false := by unfold lowB upB; simp; omega
  unfold clsB
  cases h1 : lowB n <;> cases h2 : upB n <;> cases digB n <;> cases decide (n = 95) <;> simp_all
theorem clsB_one (n : Int) : decide (clsB n = 1) = lowB n := by
  unfold clsB
  cases h1 : lowB n <;> cases h2 : upB n <;> cases digB n <;> cases decide (n = 95) <;> simp_all

theorem isLower_c (n : Int) (w : World) : Calls Try.prog 81 #[.int .u8 n] w fun e w' => e = .returned (.bool (lowB n)) ∧ w = w' := by
  go_enter Try.func81, Try.ntmps81
  go_wp2
  all_goals (go_returns; refine ⟨?_, rfl⟩; simp_all [lowB])
  all_goals omega
theorem isUpper_c (n : Int) (w : World) : Calls Try.prog 78 #[.int .u8 n] w fun e w' => e = .returned (.bool (upB n)) ∧ w = w' := by
  go_enter Try.func78, Try.ntmps78
  go_wp2
  all_goals (go_returns; refine ⟨?_, rfl⟩; simp_all [upB])
  all_goals omega
theorem isDigit_c (n : Int) (w : World) : Calls Try.prog 55 #[.int .u8 n] w fun e w' => e = .returned (.bool (digB n)) ∧ w = w' := by
  go_enter Try.func55, Try.ntmps55
  go_wp2
  all_goals (go_returns; refine ⟨?_, rfl⟩; simp_all [digB])
  all_goals omega
set_option maxHeartbeats 1000000 in
theorem isWord_c (n : Int) (w : World) : Calls Try.prog 59 #[.int .u8 n] w fun e w' => e = .returned (.bool (wordB n)) ∧ w = w' := by
  have c1 := isLower_c n w
  have c2 := isUpper_c n w
  have c3 := isDigit_c n w
  unfold wordB
  generalize lowB n = b1 at *
  generalize upB n = b2 at *
  generalize digB n = b3 at *
  have h : (n == 95) = decide (n = 95) := rfl
  cases hd : decide (n = 95) <;> rw [hd] at h <;> cases b1 <;> cases b2 <;> cases b3
  all_goals
    clear hd
    go_enter Try.func59, Try.ntmps59
    go_wp2_with (first | (go_at_call 81; ((with_reducible refine (c1).mono ?_); rintro e w1 ⟨rfl, rfl⟩)) | (go_at_call 78; ((with_reducible refine (c2).mono ?_); rintro e w1 ⟨rfl, rfl⟩)) | (go_at_call 55; ((with_reducible refine (c3).mono ?_); rintro e w1 ⟨rfl, rfl⟩)))
    go_returns
    exact ⟨rfl, rfl⟩
set_option maxHeartbeats 1000000 in
theorem l01Class_c (n : Int) (w : World) : Calls Try.prog 87 #[.int .u8 n] w fun e w' => e = .returned (.int .i64 (clsB n)) ∧ w = w' := by
  go_enter Try.func87, Try.ntmps87
  go_wp2
  all_goals (go_returns; refine ⟨?_, rfl⟩; simp_all [clsB, lowB, upB, digB])
  all_goals (try (intros; omega))
  all_goals (try (rw [if_neg (by omega)]))
  all_goals (try (rw [if_neg (by omega)]))
  all_goals (try (rw [if_neg (by omega)]))
  all_goals (try (rw [if_pos (by omega)]))

/-- Each byte of a text may stand in a word. -/
def allW (l : List UInt8) : Bool := l.all fun c => wordB c.toNat
theorem allW_take (s : ByteArray) (k : Nat) (h : k < s.size) : allW (s.data.toList.take (k + 1)) = (allW (s.data.toList.take k) && wordB s[k].toNat) := by
  have e : s.data.toList.take (k + 1) = s.data.toList.take k ++ [s[k]] := by
    rw [List.take_succ_eq_append_getElem (by simpa using h)]; rfl
  rw [e]
  unfold allW
  rw [List.all_append]
  simp
theorem allW_full (s : ByteArray) : s.data.toList.take s.size = s.data.toList := List.take_of_length_le (by simp)
theorem allW_bad (s : ByteArray) (k : Nat) (h : k < s.size) (hb : wordB s[k].toNat = false) : allW s.data.toList = false := by
  have h1 := allW_take s k h
  rw [hb, Bool.and_false] at h1
  cases hA : allW s.data.toList with
  | false => rfl
  | true =>
    exfalso
    unfold allW at h1 hA
    rw [List.all_eq_true] at hA
    have : (s.data.toList.take (k + 1)).all (fun c => wordB c.toNat) = true := List.all_eq_true.2 fun x hx => hA x (List.mem_of_mem_take hx)
    rw [this] at h1; cases h1
def wordOk (s : ByteArray) : Bool := allW s.data.toList && decide (1 ≤ (s.size : Int) ∧ (s.size : Int) ≤ 12)

set_option maxHeartbeats 1000000 in
theorem wordOk_c (s : ByteArray) (hs : StrOk s) (w : World) : Calls Try.prog 92 #[.string s] w fun e w' => e = .returned (.bool (wordOk s)) ∧ w = w' := by
  unfold StrOk at hs
  go_enter Try.func92, Try.ntmps92
  go_wp2_with fail
  go_loop [6] (fun i => ∃ k : Nat, k ≤ s.size ∧ i = .int .i64 k ∧ Hid (allW (s.data.toList.take k) = true)) (fun i => s.size - (intOf i).toNat)
  case atStart => exact ⟨0, Nat.zero_le _, rfl, rfl⟩
  case round =>
    obtain ⟨k, hk, rfl, hK⟩ := hrel
    by_cases hlt : k < s.size
    · have c1 := isWord_c (s[k].toNat : Int) w
      have h2 := Lib.hid (allW_take s k hlt)
      have h3 := Lib.hid (allW_bad s k hlt)
      generalize hq : wordB (s[k].toNat : Int) = q at *
      replace hq := Lib.hid hq
      cases q with
      | true =>
        go_wp2_with (go_at_call 59; ((with_reducible refine (c1).mono ?_); rintro e w1 ⟨rfl, rfl⟩))
        go_round
        case rel => exact ⟨k + 1, by omega, by go_num, by show _ = _; rw [h2.out, hK.out]; rfl⟩
        case measure => simp [intOf]; omega
      | false =>
        go_wp2_with (go_at_call 59; ((with_reducible refine (c1).mono ?_); rintro e w1 ⟨rfl, rfl⟩))
        go_returns
        exact ⟨by unfold wordOk; rw [h3.out trivial]; rfl, rfl⟩
    · obtain rfl : k = s.size := by omega
      go_wp2_with (go_at_call 41; ((with_reducible refine (within_c _ _ _ _).mono ?_); rintro e w1 ⟨rfl, rfl⟩))
      go_returns
      exact ⟨by unfold wordOk; rw [allW_full] at hK; rw [hK.out]; simp, rfl⟩

theorem StrOk.of_le {s : ByteArray} (h : StrOk s) : s.size ≤ 9223372036854775807 := h

/-- The first byte, 0 of an empty text. -/
def firstB (s : ByteArray) : Int := if h : 0 < s.size then (s[0]'h).toNat else 0
/-- The reference's test of a word. -/
def word01 (s : ByteArray) (first : Int) : Bool := decide (1 ≤ (s.size : Int) ∧ (s.size : Int) ≤ 12) && decide (clsB (firstB s) = first) && allW s.data.toList
set_option maxHeartbeats 1000000 in
theorem l01Word_c (s : ByteArray) (fi : Int) (hs : StrOk s) (w : World) : Calls Try.prog 72 #[.string s, .int .i64 fi] w fun e w' => e = .returned (.bool (word01 s fi)) ∧ w = w' := by
  unfold StrOk at hs
  by_cases h1 : 1 ≤ s.size ∧ s.size ≤ 12
  · obtain ⟨h1, h12⟩ := h1
    have h0 : 0 < s.size := by omega
    have h0' : (0 : Int) < s.size := by omega
    have d1 : decide ((s.size : Int) < 1) = false := by simp; omega
    have d2 : decide ((12 : Int) < s.size) = false := by simp; omega
    have hr : decide (1 ≤ (s.size : Int) ∧ (s.size : Int) ≤ 12) = true := by simp; omega
    have hf : firstB s = (s[0]'h0).toNat := by unfold firstB; rw [dif_pos h0]
    have c0 := l01Class_c ((s[0]'h0).toNat : Int) w
    by_cases hc : clsB ((s[0]'h0).toNat : Int) = fi
    · have hw : word01 s fi = allW s.data.toList := by unfold word01; rw [hr, hf, hc]; simp
      rw [hc] at c0
      have d3 : (fi != fi) = false := by simp
      replace hw := Lib.hid hw
      clear hc hf hr
      go_enter Try.func72, Try.ntmps72
      go_wp2_with (go_at_call 87; ((with_reducible refine (c0).mono ?_); rintro e w1 ⟨rfl, rfl⟩))
      go_loop [5] (fun i => ∃ k : Nat, k ≤ s.size ∧ i = .int .i64 k ∧ Hid (allW (s.data.toList.take k) = true)) (fun i => s.size - (intOf i).toNat)
      case atStart => exact ⟨0, Nat.zero_le _, rfl, rfl⟩
      case round =>
        obtain ⟨k, hk, rfl, hK⟩ := hrel
        by_cases hlt : k < s.size
        · have c1 := l01Class_c (s[k].toNat : Int) w
          have h2 := Lib.hid (allW_take s k hlt)
          have h3 := Lib.hid (allW_bad s k hlt)
          have h4 := clsB_zero (s[k].toNat : Int)
          generalize hq : clsB (s[k].toNat : Int) = q at *
          generalize hq' : wordB (s[k].toNat : Int) = q' at *
          replace hq := Lib.hid hq
          replace hq' := Lib.hid hq'
          have h5 : (q == 0) = !q' := h4
          clear h4
          cases q' with
          | true =>
            have h6 : (q == 0) = false := h5
            clear h5
            go_wp2_with (go_at_call 87; ((with_reducible refine (c1).mono ?_); rintro e w1 ⟨rfl, rfl⟩))
            go_round
            case rel => exact ⟨k + 1, by omega, by go_num, by show _ = _; rw [h2.out, hK.out]; rfl⟩
            case measure => simp [intOf]; omega
          | false =>
            have h6 : (q == 0) = true := h5
            clear h5
            go_wp2_with (go_at_call 87; ((with_reducible refine (c1).mono ?_); rintro e w1 ⟨rfl, rfl⟩))
            go_returns
            exact ⟨by rw [hw.out, h3.out trivial]; rfl, rfl⟩
        · obtain rfl : k = s.size := by omega
          go_wp2_with fail
          go_returns
          exact ⟨by rw [hw.out]; rw [allW_full] at hK; rw [hK.out]; rfl, rfl⟩
    · have hw : word01 s fi = false := by unfold word01; rw [hf, decide_eq_false hc]; simp
      have d3 : (clsB ((s[0]'h0).toNat : Int) != fi) = true := by simpa using hc
      replace hw := Lib.hid hw
      clear hc hf hr
      generalize clsB ((s[0]'h0).toNat : Int) = q at *
      go_enter Try.func72, Try.ntmps72
      go_wp2_with (go_at_call 87; ((with_reducible refine (c0).mono ?_); rintro e w1 ⟨rfl, rfl⟩))
      go_returns
      exact ⟨by rw [hw.out]; rfl, rfl⟩
  · have hw : word01 s fi = false := by unfold word01; rw [decide_eq_false (by omega)]; rfl
    replace hw := Lib.hid hw
    by_cases h0 : s.size < 1
    · have d1 : decide ((s.size : Int) < 1) = true := by simp; omega
      go_enter Try.func72, Try.ntmps72
      go_wp2_with fail
      go_returns
      exact ⟨by rw [hw.out]; rfl, rfl⟩
    · have d1 : decide ((s.size : Int) < 1) = false := by simp; omega
      have d2 : decide ((12 : Int) < s.size) = true := by simp; omega
      clear h1 h0
      go_enter Try.func72, Try.ntmps72
      go_wp2_with fail
      go_returns
      exact ⟨by rw [hw.out]; rfl, rfl⟩

end Go.Proofs.Ytpblhonnknmjjaa

/- ConOk of both. -/
namespace Go.Proofs.Ytpblhonnknmjjaa
open Go.RowKit
set_option linter.unusedVariables false
set_option linter.unusedSimpArgs false
attribute [local go_sem] Ext.cell

def conOk (s : ByteArray) : Bool := wordOk s && upB (firstB s)

set_option maxHeartbeats 1000000 in
theorem ConOk_c (s : ByteArray) (hs : StrOk s) (w : World) : Calls Try.prog 86 #[.string s] w fun e w' => e = .returned (.bool (conOk s)) ∧ w = w' := by
  have c1 := wordOk_c s hs w
  unfold StrOk at hs
  cases hw : wordOk s with
  | false =>
    rw [hw] at c1
    replace hw := Lib.hid hw
    go_enter Try.func86, Try.ntmps86
    go_wp2_with (go_at_call 92; ((with_reducible refine (c1).mono ?_); rintro e w1 ⟨rfl, rfl⟩))
    go_returns
    exact ⟨by unfold conOk; rw [hw.out]; rfl, rfl⟩
  | true =>
    rw [hw] at c1
    have h0 : 0 < s.size := by unfold wordOk at hw; simp at hw; omega
    have h0' : (0 : Int) < s.size := by omega
    have hf : firstB s = (s[0]'h0).toNat := by unfold firstB; rw [dif_pos h0]
    replace hw := Lib.hid hw
    replace hf := Lib.hid hf
    go_enter Try.func86, Try.ntmps86
    go_wp2_with (first | (go_at_call 92; ((with_reducible refine (c1).mono ?_); rintro e w1 ⟨rfl, rfl⟩)) | (go_at_call 78; ((with_reducible refine (isUpper_c _ _).mono ?_); rintro e w1 ⟨rfl, rfl⟩)))
    go_returns
    exact ⟨by unfold conOk; rw [hw.out, hf.out]; rfl, rfl⟩

theorem word01_two (s : ByteArray) : word01 s 2 = conOk s := by
  unfold word01 conOk wordOk
  rw [clsB_two]
  cases decide (1 ≤ (s.size : Int) ∧ (s.size : Int) ≤ 12) <;> cases upB (firstB s) <;> cases allW s.data.toList <;> rfl

theorem specConOk_c (s : ByteArray) (hs : StrOk s) (w : World) : Calls Try.prog 47 #[.string s] w fun e w' => e = .returned (.bool (conOk s)) ∧ w = w' := by
  rw [← word01_two]
  go_enter Try.func47, Try.ntmps47
  go_wp2_with (go_at_call 72; ((with_reducible refine (l01Word_c s 2 hs _).mono ?_); rintro e w1 ⟨rfl, rfl⟩))
  go_returns
  exact ⟨rfl, rfl⟩

end Go.Proofs.Ytpblhonnknmjjaa

/- How many children a constructor may have: the program's test and the reference's. -/
namespace Go.Proofs.Ytpblhonnknmjjaa
open Go.RowKit
set_option linter.unusedVariables false
set_option linter.unusedSimpArgs false
attribute [local go_sem] Ext.cell

def sTrue : List UInt8 := [116, 114, 117, 101]
def sFalse : List UInt8 := [102, 97, 108, 115, 101]
def sNil : List UInt8 := [91, 93]
def sCons : List UInt8 := [58, 58]
def conShape (s : ByteArray) (k : Int) (pair : Bool) : Bool :=
  if (s.toList == sTrue || s.toList == sFalse || s.toList == sNil) = true then k == 0
  else if (s.toList == sCons) = true then (k == 1) && pair
  else conOk s && decide (k ≤ 1)

set_option maxHeartbeats 1000000 in
theorem conShape_c (s : ByteArray) (k : Int) (pair : Bool) (hs : StrOk s) (w : World) : Calls Try.prog 71 #[.string s, .int .i64 k, .bool pair] w fun e w' => e = .returned (.bool (conShape s k pair)) ∧ w = w' := by
  have c1 := ConOk_c s hs w
  unfold conShape
  cases e1 : (s.toList == sTrue) <;> cases e2 : (s.toList == sFalse) <;> cases e3 : (s.toList == sNil) <;> cases e4 : (s.toList == sCons)
  case false.false.false.false =>
    generalize conOk s = c at *
    unfold sTrue sFalse sNil sCons at *
    cases c
    all_goals
      go_enter Try.func71, Try.ntmps71
      go_wp2_with (go_at_call 86; ((with_reducible refine (c1).mono ?_); rintro e w1 ⟨rfl, rfl⟩))
      go_returns
      exact ⟨rfl, rfl⟩
  all_goals
    clear c1
    unfold sTrue sFalse sNil sCons at *
    cases e5 : (k == 1)
  all_goals
    go_enter Try.func71, Try.ntmps71
    go_wp2_with fail
    go_returns
    exact ⟨rfl, rfl⟩

set_option maxHeartbeats 1000000 in
theorem l04ConOk_c (s : ByteArray) (k : Int) (pair : Bool) (hs : StrOk s) (w : World) : Calls Try.prog 24 #[.string s, .int .i64 k, .bool pair] w fun e w' => e = .returned (.bool (conShape s k pair)) ∧ w = w' := by
  have c1 := specConOk_c s hs w
  have x1 : (s.toList == sCons) = true → (s.toList == sTrue) = false ∧ (s.toList == sFalse) = false ∧ (s.toList == sNil) = false := by
    intro h
    rw [eq_of_beq h]
    decide
  unfold conShape
  cases e4 : (s.toList == sCons)
  · clear x1
    cases e1 : (s.toList == sTrue) <;> cases e2 : (s.toList == sFalse) <;> cases e3 : (s.toList == sNil)
    case false.false.false =>
      generalize conOk s = c at *
      unfold sTrue sFalse sNil sCons at *
      cases c
      all_goals
        go_enter Try.func24, Try.ntmps24
        go_wp2_with (go_at_call 47; ((with_reducible refine (c1).mono ?_); rintro e w1 ⟨rfl, rfl⟩))
        go_returns
        exact ⟨rfl, rfl⟩
    all_goals
      clear c1
      unfold sTrue sFalse sNil sCons at *
      go_enter Try.func24, Try.ntmps24
      go_wp2_with fail
      go_returns
      exact ⟨rfl, rfl⟩
  · obtain ⟨e1, e2, e3⟩ := x1 e4
    rw [e1, e2, e3]
    clear x1 c1
    unfold sTrue sFalse sNil sCons at *
    cases e5 : (k == 1)
    all_goals
      go_enter Try.func24, Try.ntmps24
      go_wp2_with fail
      go_returns
      exact ⟨rfl, rfl⟩

end Go.Proofs.Ytpblhonnknmjjaa

/- A value's node: when it is right; the program's test. -/
namespace Go.Proofs.Ytpblhonnknmjjaa
open Go.RowKit
set_option linter.unusedVariables false
set_option linter.unusedSimpArgs false
attribute [local go_sem] Ext.cell

def kindAt (l : List GDNode) (k : Int) : Int := if 0 ≤ k then (l[k.toNat]?.map (·.kind)).getD 0 else 0
def pairOf (l : List GDNode) (ks : List Int) : Bool := match ks with
  | [k] => kindAt l k == 5
  | _ => false
def nodeOk (l : List GDNode) (x : GDNode) : Bool :=
  if x.kind = 3 then ((x.kids.length : Int) == 0) && (x.s.toList.isEmpty && decide (-4611686018427387904 ≤ x.n ∧ x.n ≤ 4611686018427387903))
  else if x.kind = 2 then ((x.kids.length : Int) == 0) && (x.n == 0)
  else if x.kind = 6 then ((x.kids.length : Int) == 0) && ((x.n == 0) && x.s.toList.isEmpty)
  else if x.kind = 5 then ((x.kids.length : Int) == 2) && ((x.n == 0) && x.s.toList.isEmpty)
  else if x.kind = 4 then (x.n == 0) && conShape x.s x.kids.length (pairOf l x.kids)
  else false

set_option maxRecDepth 100000 in
set_option maxHeartbeats 4000000 in
theorem dataNodeOk_flat (kd nn : Int) (s : ByteArray) (ka da : Option Addr) (m kc dn dc : Nat) (w : World) (hk : kd ≠ 4) (hm : m ≤ 9223372036854775807) (l : List GDNode) (ks : List Int) (hl : ks.length = m) :
    Calls Try.prog 46 #[.agg #[.slice da dn dc], .agg #[.int .i64 kd, .int .i64 nn, .string s, .slice ka m kc]] w fun e w' => e = .returned (.bool (nodeOk l ⟨kd, nn, s, ks⟩)) ∧ Below w.heap.size w w' := by
  unfold nodeOk
  dsimp only
  rw [hl, if_neg hk]
  clear hl
  by_cases h3 : kd = 3
  · subst h3
    cases e0 : ((m : Int) == 0) <;> cases e1 : s.toList.isEmpty
    all_goals
      go_enter Try.func46, Try.ntmps46
      go_wp2_with (go_at_call 41; ((with_reducible refine (within_c _ _ _ _).mono ?_); rintro e w1 ⟨rfl, rfl⟩))
      go_returns
      exact ⟨by simp, by go_grown⟩
  by_cases h2 : kd = 2
  · subst h2
    cases e0 : ((m : Int) == 0) <;> cases e1 : (nn == 0)
    all_goals
      go_enter Try.func46, Try.ntmps46
      go_wp2_with fail
      go_returns
      exact ⟨by simp, by go_grown⟩
  by_cases h6 : kd = 6
  · subst h6
    cases e0 : ((m : Int) == 0) <;> cases e1 : (nn == 0) <;> cases e2 : s.toList.isEmpty
    all_goals
      go_enter Try.func46, Try.ntmps46
      go_wp2_with fail
      go_returns
      exact ⟨by simp, by go_grown⟩
  by_cases h5 : kd = 5
  · subst h5
    cases e0 : ((m : Int) == 2) <;> cases e1 : (nn == 0) <;> cases e2 : s.toList.isEmpty
    all_goals
      go_enter Try.func46, Try.ntmps46
      go_wp2_with fail
      go_returns
      exact ⟨by simp, by go_grown⟩
  rw [if_neg h3, if_neg h2, if_neg h6, if_neg h5]
  have e3 : (kd == 3) = false := by simpa using h3
  have e2 : (kd == 2) = false := by simpa using h2
  have e6 : (kd == 6) = false := by simpa using h6
  have e5 : (kd == 5) = false := by simpa using h5
  have e4 : (kd == 4) = false := by simpa using hk
  clear h3 h2 h6 h5 hk
  go_enter Try.func46, Try.ntmps46
  go_wp2_with fail
  go_returns
  exact ⟨rfl, by go_grown⟩

set_option maxRecDepth 100000 in
set_option maxHeartbeats 4000000 in
theorem dataNodeOk_con (x : GDNode) (hx4 : x.kind = 4) (hs : StrOk x.s) (d : GData) (hd : d.nodes.length ≤ 1152921504606846976) (r1 r2 : List Value) (lo1 lo2 : Nat) (w : World) (hr1 : GData.R lo1 w r1 d) (hr2 : GDNode.R lo2 w r2 x)
    (hin : ∀ k, x.kids = [k] → 0 ≤ k ∧ k < d.nodes.length) :
    Calls Try.prog 46 #[.agg r1.toArray, .agg r2.toArray] w fun e w' => e = .returned (.bool (nodeOk d.nodes x)) ∧ Below w.heap.size w w' := by
  obtain ⟨kd, nn, s, ks⟩ := x
  dsimp only at hx4
  subst hx4
  unfold nodeOk
  dsimp only at *
  rw [if_neg (by decide), if_neg (by decide), if_neg (by decide), if_neg (by decide), if_pos rfl]
  obtain ⟨u0, rfl, -, a0⟩ := hr1
  obtain ⟨v0, rfl, -, b0⟩ := hr2
  obtain ⟨da, dc, rfl, dl, dm, a0⟩ := a0
  obtain ⟨ka, kc, rfl, kl, km, b0⟩ := b0
  dsimp only at *
  by_cases hn : nn = 0
  · subst hn
    by_cases h1 : ks.length = 1
    · obtain ⟨k, rfl⟩ : ∃ k, ks = [k] := List.length_eq_one_iff.1 h1
      obtain ⟨hk0, hk1⟩ := hin k rfl
      obtain ⟨j, rfl⟩ : ∃ j : Nat, k = j := ⟨k.toNat, by omega⟩
      obtain ⟨b1, o1, k', s1, _, rfl, P1, ⟨rfl, -⟩, q1⟩ := b0.get (k := 0) (Lib.hid rfl) (by simp)
      obtain rfl : (j : Int) = k' := by have := P1.out; simpa using this
      obtain ⟨b2, o2, y, s2, _, rfl, P2, hy, q2⟩ := a0.get (k := j) (Lib.hid rfl) (by omega)
      obtain ⟨y0, rfl, -, -⟩ := hy
      have e1 : w.cell? ⟨b1, o1, none⟩ = some (.int .i64 j) := by simpa using q1 0 _ rfl
      have e2 : w.cell? ⟨b2, o2 + j * 4, none⟩ = some (.int .i64 y.kind) := by simpa using q2 0 _ rfl
      have hp : pairOf d.nodes [(j : Int)] = (y.kind == 5) := by unfold pairOf kindAt; simp [P2.out]
      rw [hp]
      have hj : j < d.nodes.length := by omega
      clear hp hin hk0 hk1 h1 a0 b0 q1 q2 P1 P2
      show Calls Try.prog 46 #[.agg #[.slice (some ⟨b2, o2, none⟩) d.nodes.length dc], .agg #[.int .i64 4, .int .i64 0, .string s, .slice (some ⟨b1, o1, none⟩) 1 kc]] w fun e w' => e = .returned (.bool (conShape s 1 (y.kind == 5))) ∧ Below w.heap.size w w'
      have hc := fun W => conShape_c s 1 (y.kind == 5) hs W
      generalize d.nodes.length = n at *
      generalize y.kind = yk at *
      generalize conShape s 1 (yk == 5) = cs at *
      go_enter Try.func46, Try.ntmps46
      go_upto_region 1 with fail
      have D : RowAt (w.alloc (.cells #[.slice (some ⟨b2, o2, none⟩) n dc] 25)) (w.heap.size) 0 [.slice (some ⟨b2, o2, none⟩) n dc] := RowAt.box w #[.slice (some ⟨b2, o2, none⟩) n dc] 25
      have D := D.below (show Below (w.alloc (.cells #[.slice (some ⟨b2, o2, none⟩) n dc] 25)).heap.size (w.alloc (.cells #[.slice (some ⟨b2, o2, none⟩) n dc] 25)) ((w.alloc (.cells #[.slice (some ⟨b2, o2, none⟩) n dc] 25)).alloc (.cells #[.int .i64 4, .int .i64 0, .string s, .slice (some ⟨b1, o1, none⟩) 1 kc] 44)) by go_grown)
      have N : RowAt ((w.alloc (.cells #[.slice (some ⟨b2, o2, none⟩) n dc] 25)).alloc (.cells #[.int .i64 4, .int .i64 0, .string s, .slice (some ⟨b1, o1, none⟩) 1 kc] 44)) (w.heap.size + 1) 0 [.int .i64 4, .int .i64 0, .string s, .slice (some ⟨b1, o1, none⟩) 1 kc] := by have h := RowAt.box (w.alloc (.cells #[.slice (some ⟨b2, o2, none⟩) n dc] 25)) #[.int .i64 4, .int .i64 0, .string s, .slice (some ⟨b1, o1, none⟩) 1 kc] 44; simp only [World.size_alloc] at h; exact h
      have hw : Below w.heap.size w ((w.alloc (.cells #[.slice (some ⟨b2, o2, none⟩) n dc] 25)).alloc (.cells #[.int .i64 4, .int .i64 0, .string s, .slice (some ⟨b1, o1, none⟩) 1 kc] 44)) := by go_grown
      generalize ((w.alloc (.cells #[.slice (some ⟨b2, o2, none⟩) n dc] 25)).alloc (.cells #[.int .i64 4, .int .i64 0, .string s, .slice (some ⟨b1, o1, none⟩) 1 kc] 44)) = w0 at *
      have e1' := cell_below hw e1
      have e2' := cell_below hw e2
      have hb1' := World.block_lt_of_cell? _ _ e1'
      have hb2' := World.block_lt_of_cell? _ _ e2'
      dsimp only at hb1' hb2'
      clear e1 e2
      have d_0 := D.box1; have hsD := World.block_lt_of_cell? _ _ d_0; dsimp only at hsD; obtain ⟨n_0, n_1, n_2, n_3⟩ := N.box4; have hsN := World.block_lt_of_cell? _ _ n_0; dsimp only at hsN
      go_upto_region 12 with fail
      (refine wp_region_ext_lit (by kernel_rfl) (by kernel_rfl) ?_; (repeat (any_goals (first | go_big_quiet_step ((first | (go_at_call 71; exact Calls.ext_same (hc _)))) | quiet_step ((first | (go_at_call 71; exact Calls.ext_same (hc _)))) | (refine wpQuiet_step (fun K hK => ?_); go_simp; split <;> (refine hK _ ?_; clear hK K))))); all_goals (refine wpQuiet_nil ?_; rintro w1 ⟨⟨w2, hb⟩, rfl⟩; have hw := hw.trans (hb.mono hw.size); have D := D.below hb; have d_0 := D.box1; have hsD := World.block_lt_of_cell? _ _ d_0; dsimp only at hsD; have N := N.below hb; obtain ⟨n_0, n_1, n_2, n_3⟩ := N.box4; have hsN := World.block_lt_of_cell? _ _ n_0; dsimp only at hsN; clear hb))
      all_goals go_wp2
      all_goals go_returns
      all_goals exact ⟨rfl, hw⟩
    · have hp : pairOf d.nodes ks = false := by
        unfold pairOf
        match ks, h1 with
        | [], _ => rfl
        | [a], h => exact absurd rfl h
        | a :: b :: c, _ => rfl
      rw [hp]
      show Calls Try.prog 46 #[.agg #[.slice da d.nodes.length dc], .agg #[.int .i64 4, .int .i64 0, .string s, .slice ka ks.length kc]] w fun e w' => e = .returned (.bool (conShape s ks.length false)) ∧ Below w.heap.size w w'
      have hc := fun W => conShape_c s ks.length false hs W
      generalize d.nodes.length = n at *
      have e1 : ((ks.length : Int) == 1) = false := by simp; omega
      clear hp hin h1 a0 b0
      generalize ks.length = m at *
      generalize conShape s m false = cs at *
      go_enter Try.func46, Try.ntmps46
      go_upto_region 1 with fail
      have D : RowAt (w.alloc (.cells #[.slice da n dc] 25)) (w.heap.size) 0 [.slice da n dc] := RowAt.box w #[.slice da n dc] 25
      have D := D.below (show Below (w.alloc (.cells #[.slice da n dc] 25)).heap.size (w.alloc (.cells #[.slice da n dc] 25)) ((w.alloc (.cells #[.slice da n dc] 25)).alloc (.cells #[.int .i64 4, .int .i64 0, .string s, .slice ka m kc] 44)) by go_grown)
      have N : RowAt ((w.alloc (.cells #[.slice da n dc] 25)).alloc (.cells #[.int .i64 4, .int .i64 0, .string s, .slice ka m kc] 44)) (w.heap.size + 1) 0 [.int .i64 4, .int .i64 0, .string s, .slice ka m kc] := by have h := RowAt.box (w.alloc (.cells #[.slice da n dc] 25)) #[.int .i64 4, .int .i64 0, .string s, .slice ka m kc] 44; simp only [World.size_alloc] at h; exact h
      have hw : Below w.heap.size w ((w.alloc (.cells #[.slice da n dc] 25)).alloc (.cells #[.int .i64 4, .int .i64 0, .string s, .slice ka m kc] 44)) := by go_grown
      generalize ((w.alloc (.cells #[.slice da n dc] 25)).alloc (.cells #[.int .i64 4, .int .i64 0, .string s, .slice ka m kc] 44)) = w0 at *
      have d_0 := D.box1; have hsD := World.block_lt_of_cell? _ _ d_0; dsimp only at hsD; obtain ⟨n_0, n_1, n_2, n_3⟩ := N.box4; have hsN := World.block_lt_of_cell? _ _ n_0; dsimp only at hsN
      go_upto_region 12 with fail
      (refine wp_region_ext_lit (by kernel_rfl) (by kernel_rfl) ?_; (repeat (any_goals (first | go_big_quiet_step ((first | (go_at_call 71; exact Calls.ext_same (hc _)))) | quiet_step ((first | (go_at_call 71; exact Calls.ext_same (hc _)))) | (refine wpQuiet_step (fun K hK => ?_); go_simp; split <;> (refine hK _ ?_; clear hK K))))); all_goals (refine wpQuiet_nil ?_; rintro w1 ⟨⟨w2, hb⟩, rfl⟩; have hw := hw.trans (hb.mono hw.size); have D := D.below hb; have d_0 := D.box1; have hsD := World.block_lt_of_cell? _ _ d_0; dsimp only at hsD; have N := N.below hb; obtain ⟨n_0, n_1, n_2, n_3⟩ := N.box4; have hsN := World.block_lt_of_cell? _ _ n_0; dsimp only at hsN; clear hb))
      all_goals go_wp2
      all_goals go_returns
      all_goals exact ⟨rfl, hw⟩
  · have en : (nn == 0) = false := by simpa using hn
    rw [en]
    show Calls Try.prog 46 #[.agg #[.slice da d.nodes.length dc], .agg #[.int .i64 4, .int .i64 nn, .string s, .slice ka ks.length kc]] w fun e w' => e = .returned (.bool false) ∧ Below w.heap.size w w'
    generalize d.nodes.length = n at *
    clear hin hn a0 b0
    generalize ks.length = m at *
    go_enter Try.func46, Try.ntmps46
    go_upto_region 1 with fail
    have D : RowAt (w.alloc (.cells #[.slice da n dc] 25)) (w.heap.size) 0 [.slice da n dc] := RowAt.box w #[.slice da n dc] 25
    have D := D.below (show Below (w.alloc (.cells #[.slice da n dc] 25)).heap.size (w.alloc (.cells #[.slice da n dc] 25)) ((w.alloc (.cells #[.slice da n dc] 25)).alloc (.cells #[.int .i64 4, .int .i64 nn, .string s, .slice ka m kc] 44)) by go_grown)
    have N : RowAt ((w.alloc (.cells #[.slice da n dc] 25)).alloc (.cells #[.int .i64 4, .int .i64 nn, .string s, .slice ka m kc] 44)) (w.heap.size + 1) 0 [.int .i64 4, .int .i64 nn, .string s, .slice ka m kc] := by have h := RowAt.box (w.alloc (.cells #[.slice da n dc] 25)) #[.int .i64 4, .int .i64 nn, .string s, .slice ka m kc] 44; simp only [World.size_alloc] at h; exact h
    have hw : Below w.heap.size w ((w.alloc (.cells #[.slice da n dc] 25)).alloc (.cells #[.int .i64 4, .int .i64 nn, .string s, .slice ka m kc] 44)) := by go_grown
    generalize ((w.alloc (.cells #[.slice da n dc] 25)).alloc (.cells #[.int .i64 4, .int .i64 nn, .string s, .slice ka m kc] 44)) = w0 at *
    have d_0 := D.box1; have hsD := World.block_lt_of_cell? _ _ d_0; dsimp only at hsD; obtain ⟨n_0, n_1, n_2, n_3⟩ := N.box4; have hsN := World.block_lt_of_cell? _ _ n_0; dsimp only at hsN
    go_upto_region 12 with fail
    (refine wp_region_ext_lit (by kernel_rfl) (by kernel_rfl) ?_; (repeat (any_goals (first | go_big_quiet_step ((first | fail)) | quiet_step ((first | fail)) | (refine wpQuiet_step (fun K hK => ?_); go_simp; split <;> (refine hK _ ?_; clear hK K))))); all_goals (refine wpQuiet_nil ?_; rintro w1 ⟨⟨w2, hb⟩, rfl⟩; have hw := hw.trans (hb.mono hw.size); have D := D.below hb; have d_0 := D.box1; have hsD := World.block_lt_of_cell? _ _ d_0; dsimp only at hsD; have N := N.below hb; obtain ⟨n_0, n_1, n_2, n_3⟩ := N.box4; have hsN := World.block_lt_of_cell? _ _ n_0; dsimp only at hsN; clear hb))
    all_goals go_wp2
    all_goals go_returns
    all_goals exact ⟨rfl, hw⟩

theorem dataNodeOk_c (x : GDNode) (hs : StrOk x.s) (d : GData) (hd : d.nodes.length ≤ 1152921504606846976) (r1 r2 : List Value) (lo1 lo2 : Nat) (w : World) (hr1 : GData.R lo1 w r1 d) (hr2 : GDNode.R lo2 w r2 x)
    (hin : ∀ k ∈ x.kids, 0 ≤ k ∧ k < d.nodes.length) :
    Calls Try.prog 46 #[.agg r1.toArray, .agg r2.toArray] w fun e w' => e = .returned (.bool (nodeOk d.nodes x)) ∧ Below w.heap.size w w' := by
  by_cases h4 : x.kind = 4
  · exact dataNodeOk_con x h4 hs d hd r1 r2 lo1 lo2 w hr1 hr2 fun k h => hin k (by rw [h]; simp)
  · obtain ⟨u0, rfl, -, a0⟩ := hr1
    obtain ⟨v0, rfl, -, b0⟩ := hr2
    obtain ⟨da, dc, rfl, dl, dm, a0⟩ := a0
    obtain ⟨ka, kc, rfl, kl, km, b0⟩ := b0
    exact dataNodeOk_flat x.kind x.n x.s ka da x.kids.length kc d.nodes.length dc w h4 (by omega) d.nodes x.kids rfl

end Go.Proofs.Ytpblhonnknmjjaa

/- What an index search hands back. -/
namespace Go.Proofs.Ytpblhonnknmjjaa
open Go.RowKit

def IdxPost {α : Type} (p : α → Bool) (xs : List α) (w : World) (e : Ending) (w' : World) : Prop :=
  ∃ n : Int, e = .returned (.int .i64 n) ∧ decide (0 ≤ n) = xs.any p ∧ Below w.heap.size w w'

end Go.Proofs.Ytpblhonnknmjjaa
