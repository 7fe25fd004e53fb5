/- Marks: markText, markStringS, heldStringS. -/
import Derived.Test.YtioecmmobfonjaaEq
import Derived.Laws.IdiomStrings
namespace Go.Proofs.Ytioecmmobfonjaa
open Go.RowKit
set_option linter.unusedVariables false
set_option linter.unusedSimpArgs false
attribute [local go_sem] Ext.cell

/-- The digits of n, ahead of s. -/
def dig (n : Nat) : UInt8 := UInt8.ofNat (48 + n % 10)
def digs (n : Nat) (s : ByteArray) : ByteArray := if n = 0 then s else digs (n / 10) (⟨#[dig n]⟩ ++ s)
def markT (n : Nat) : ByteArray := if n = 0 then ⟨#[109, 48]⟩ else ⟨#[109]⟩ ++ digs n ⟨#[]⟩
theorem digs_zero (s : ByteArray) : digs 0 s = s := by rw [digs]; rfl
theorem digs_pos {n : Nat} (h : n ≠ 0) (s : ByteArray) : digs n s = digs (n / 10) (⟨#[dig n]⟩ ++ s) := by conv => lhs; rw [digs]; rw [if_neg h]

theorem conv_digit (w : World) (k : Nat) : (convert 93 9 (Value.slice (some ⟨w.heap.size, 0, none⟩) 1 1)).run Try.prog (w.alloc (.cells #[.int .u8 (48 + (k : Int) % 10)] 5)) = .ok (.string ⟨#[dig k]⟩) (w.alloc (.cells #[.int .u8 (48 + (k : Int) % 10)] 5)) := by
  refine run_convert_bytes_back (P := Try.prog) _ 93 9 5 ⟨w.heap.size, 0, none⟩ 1 [dig k] Try.underlying93 Try.underlying5 Try.underlying9 (fun j hj => ?_)
  obtain rfl : j = 0 := by simp at hj; exact hj
  have h : (dig k).toNat = 48 + k % 10 := by unfold dig; rw [UInt8.toNat_ofNat']; exact Nat.mod_eq_of_lt (by omega)
  simp [go_sem, Addr.add, h]

set_option maxHeartbeats 1000000 in
theorem markText_c (k0 : Nat) (hk0 : k0 ≤ 4611686018427387904) (w : World) :
    Calls Try.prog 36 #[.int .i64 k0] w fun e w' => e = .returned (.string (markT k0)) ∧ Below w.heap.size w w' := by
  by_cases h0 : k0 = 0
  · subst h0
    go_enter Try.func36, Try.ntmps36
    go_wp2
    go_returns
    exact ⟨rfl, by go_grown⟩
  · have h1 : 0 < k0 := by omega
    have h2 : ¬ ((k0 : Int) ≤ 0) := by omega
    go_enter Try.func36, Try.ntmps36
    go_wp2_with fail
    go_loopw [0, 3] (fun m o wr => ∃ (k : Nat) (s : ByteArray), m = .int .i64 k ∧ o = .string s ∧ Hid (digs k s = digs k0 ⟨#[]⟩) ∧ s.size + k ≤ k0 ∧ Below w.heap.size w wr) (fun m _ _ => (intOf m).toNat)
    case atStart => exact ⟨k0, ⟨#[]⟩, rfl, rfl, rfl, by show 0 + k0 ≤ k0; omega, by go_grown⟩
    case round =>
      obtain ⟨k, s, rfl, rfl, hd, hs, hw⟩ := hrel
      have hz := hw.size
      by_cases hlt : k = 0
      · replace hd : s = digs k0 ⟨#[]⟩ := by rw [Hid, hlt, digs_zero] at hd; exact hd
        replace hd := Lib.hid hd
        have h5 : (k : Int) = 0 := by omega
        rw [h5]
        clear h5
        clear hlt
        generalize hj : digs k0 ⟨#[]⟩ = dk at *
        replace hj := Lib.hid hj
        have h4 : 1 + s.size ≤ 9223372036854775807 := by omega
        go_wp2_with fail
        go_returns
        exact ⟨by have a := hj.out; have b := hd.out; subst b; subst a; simp [markT, h0], hw⟩
      · have h3 : 0 < k := by omega
        have h4 : s.size + 1 ≤ 9223372036854775807 := by omega
        have hrun := conv_digit wr k
        set_option maxRecDepth 10000 in go_wp2_with fail
        go_roundw
        case rel => exact ⟨k / 10, _, by go_num, rfl, by rw [Hid, ← hd, digs_pos hlt], by rw [ByteArray.size_append]; show 1 + s.size + k / 10 ≤ k0; omega, by go_grown⟩
        case measure => simp [intOf]; omega

/-! ### What may be written, and what is written -/
/-- The blocks outside S that w has are the same in w'. -/
def Kept (S : Nat → Prop) (w w' : World) : Prop := ∀ k, k < w.heap.size → ¬ S k → w'.heap[k]? = w.heap[k]?
theorem Kept.refl (S : Nat → Prop) (w : World) : Kept S w w := fun _ _ _ => rfl
theorem Kept.trans {S : Nat → Prop} {a b c : World} (h : Kept S a b) (hs : a.heap.size ≤ b.heap.size) (h' : Kept S b c) : Kept S a c := fun k h1 h2 => (h' k (by omega) h2).trans (h k h1 h2)
theorem Kept.below {S : Nat → Prop} {a b : World} (h : Below a.heap.size a b) : Kept S a b := fun k h1 _ => h.block k h1
theorem Kept.set {S : Nat → Prop} {a b : World} (h : Kept S a b) {p : Addr} (hp : S p.block) (u : Value) : Kept S a (b.setCell p u) := fun k h1 h2 =>
  (Below.heap_setCell _ _ _ _ (fun e => h2 (by rw [e]; exact hp))).trans (h k h1 h2)

/-- N cells from off on in block b may be written. -/
def Wr (w : World) (b off N : Nat) : Prop := ∀ j, j < N → ∃ c, w.cell? ⟨b, off + j, none⟩ = some c ∧ w.frozen? ⟨b, off + j, none⟩ = false
theorem Wr.below {w w' : World} {b off N : Nat} (h : Wr w b off N) (hb : Below w.heap.size w w') : Wr w' b off N := fun j hj =>
  let ⟨c, h1, h2⟩ := h j hj
  ⟨c, cell_below hb h1, by rw [hb.frozen (p := ⟨b, off + j, none⟩) (World.block_lt_of_cell? w _ h1), h2]⟩
theorem Wr.set {w : World} {b off N : Nat} (h : Wr w b off N) (o : Nat) (u : Value) : Wr (w.setCell ⟨b, o, none⟩ u) b off N := fun j hj => by
  obtain ⟨c, h1, h2⟩ := h j hj
  by_cases e : o = off + j
  · subst e; exact ⟨u, cell_setCell_eq _ _ _ _ h1, by rw [frozen_setCell, h2]⟩
  · exact ⟨c, by rw [cell_setCell_ne _ _ _ _ _ e, h1], by rw [frozen_setCell, h2]⟩
/-- The N cells from off on in block b are f 0, f 1, .. -/
def Mk (w : World) (b off N : Nat) (f : Nat → Value) : Prop := ∀ j, j < N → w.cell? ⟨b, off + j, none⟩ = some (f j)
theorem Mk.below {w w' : World} {b off N : Nat} {f : Nat → Value} (h : Mk w b off N f) (hb : Below w.heap.size w w') : Mk w' b off N f := fun j hj => cell_below hb (h j hj)
theorem Mk.kept {S : Nat → Prop} {w w' : World} {b off N : Nat} {f : Nat → Value} (h : Mk w b off N f) (hk : Kept S w w') (hS : ¬ S b) : Mk w' b off N f := fun j hj => by
  rw [World.cell?_of_block (w := w) (a := ⟨b, off + j, none⟩) (hk b (World.block_lt_of_cell? w _ (h j hj)) hS)]
  exact h j hj
theorem Mk.step {w : World} {b off N k : Nat} {f : Nat → Value} (h : Mk w b off k f) (hA : Wr w b off N) (hk : k < N) {u : Value} (hu : u = f k) : Mk (w.setCell ⟨b, off + k, none⟩ u) b off (k + 1) f := fun j hj => by
  by_cases e : j = k
  · subst e
    obtain ⟨c, h1, _⟩ := hA j hk
    rw [cell_setCell_eq _ _ _ _ h1, hu]
  · rw [cell_setCell_ne _ _ _ _ _ (by omega)]
    exact h j (by omega)

set_option maxHeartbeats 1000000 in
theorem markStringS_c (b off n cap k lo : Nat) (hlo : lo ≤ b) (hkn : k + n ≤ 4611686018427387904) (w : World) (hb0 : b < w.heap.size) (hA : Wr w b off n) :
    Calls Try.prog 12 #[.slice (some ⟨b, off, none⟩) n cap, .int .i64 k] w fun e w' => e = .returned (.int .i64 (k + n : Nat)) ∧ Mk w' b off n (fun j => .string (markT (k + j))) ∧ Below lo w w' ∧ Kept (· = b) w w' := by
  go_enter Try.func12, Try.ntmps12
  go_wp2_with fail
  go_loopw [1, 5] (fun kk i wr => ∃ m j : Nat, j ≤ n ∧ m = k + j ∧ kk = .int .i64 m ∧ i = .int .i64 j ∧ Wr wr b off n ∧ Mk wr b off j (fun j => .string (markT (k + j))) ∧ Below lo w wr ∧ Kept (· = b) w wr) (fun _ i _ => n - (intOf i).toNat)
  case atStart => exact ⟨k, 0, by omega, by omega, rfl, rfl, hA, fun j hj => absurd hj (by omega), Below.refl _ _, Kept.refl _ _⟩
  case round =>
    obtain ⟨m, j, hj, hm, rfl, rfl, hA1, hM, hw, hK⟩ := hrel
    replace hm := Lib.hid hm
    have hz := hw.size
    clear hA
    by_cases hlt : j < n
    · have hm1 : m ≤ 4611686018427387904 := by have := hm.out; omega
      go_wp2_with (go_at_call 36; refine (markText_c m hm1 _).mono ?_; rintro e w2 ⟨rfl, hb2⟩; have hA2 := hA1.below hb2; have hM2 := hM.below hb2; have hK2 := hK.trans hz (Kept.below hb2); have hw2 := hw.trans (hb2.mono (by omega)); have hz2 := hb2.size; clear hA1 hM hb2; obtain ⟨c0, e0, f0⟩ := hA2 j hlt)
      go_roundw
      case rel => exact ⟨m + 1, j + 1, by omega, by rw [hm.out]; omega, by go_num, by go_num, hA2.set _ _, hM2.step hA2 hlt (by rw [hm.out]), hw2.setCell (by dsimp only; omega) _, hK2.set rfl _⟩
      case measure => simp [intOf]; omega
    · obtain rfl : j = n := by omega
      go_wp2
      go_returns
      exact ⟨by rw [hm.out]; rfl, hM, hw, hK⟩

set_option maxHeartbeats 1000000 in
theorem heldStringS_c (b off n cap k : Nat) (hkn : k + n ≤ 4611686018427387904) (w : World) (hM : Mk w b off n (fun j => .string (markT (k + j)))) :
    Calls Try.prog 13 #[.slice (some ⟨b, off, none⟩) n cap, .int .i64 k] w fun e w' => e = .returned (.int .i64 (k + n : Nat)) ∧ Below w.heap.size w w' := by
  go_enter Try.func13, Try.ntmps13
  go_wp2_with fail
  go_loopw [1, 5] (fun kk i wr => ∃ m j : Nat, j ≤ n ∧ m = k + j ∧ kk = .int .i64 m ∧ i = .int .i64 j ∧ Below w.heap.size w wr) (fun _ i _ => n - (intOf i).toNat)
  case atStart => exact ⟨k, 0, by omega, by omega, rfl, rfl, Below.refl _ _⟩
  case round =>
    obtain ⟨m, j, hj, hm, rfl, rfl, hw⟩ := hrel
    replace hm := Lib.hid hm
    have hz := hw.size
    by_cases hlt : j < n
    · have hm1 : m ≤ 4611686018427387904 := by have := hm.out; omega
      have R1 : ∀ z : Ext wr, z.val.cell? ⟨b, off + j, none⟩ = some (.string (markT m)) := fun z => by have h := (hM.below hw).below z.property j hlt; rw [hm.out]; exact h
      generalize hs : markT m = s at *
      replace hs := Lib.hid hs
      have c1 := fun W => markText_c m hm1 W
      rw [hs.out] at c1
      go_wp2_with fail
      refine wp_region_ext_lit (by kernel_rfl) (by kernel_rfl) ?_
      repeat (go_big_quiet_step ((go_at_call 36; exact Calls.ext (c1 _))))
      refine wpQuiet_nil ?_
      rintro _ ⟨⟨w2, hw2⟩, rfl⟩
      clear R1
      have hw3 := hw.trans (hw2.mono hw.size)
      go_wp2
      go_roundw
      case rel => exact ⟨m + 1, j + 1, by omega, by rw [hm.out]; omega, by go_num, by go_num, hw3⟩
      case measure => simp [intOf]; omega
    · obtain rfl : j = n := by omega
      go_wp2
      go_returns
      exact ⟨by rw [hm.out]; rfl, hw⟩

end Go.Proofs.Ytioecmmobfonjaa
