/- Parts of the proof, merged: Rd2, Rd3, Read3. -/
import Derived.Test.YtpblhonnknmjjaaTx10
/- The reference's l21Str. -/
namespace Go.Proofs.Ytpblhonnknmjjaa
open Go.RowKit
set_option linter.unusedVariables false
set_option linter.unusedSimpArgs false
attribute [local go_sem] Ext.cell

/-- What a part of the reader hands back: a tree, and the reader behind it; bad where the plain reader reads nothing. -/
def RdPost (b : Nat) (s : ByteArray) (m : Option (PxT × List UInt8)) (F : Nat) (w : World) (e : Ending) (w' : World) : Prop :=
  ∃ (t : PxT) (a : Option Addr) (c p : Nat) (bad : Bool), e = .returned (.agg #[.int .i64 t.kind, .int .i64 t.n, .string t.s, .slice a t.kids.length c]) ∧ PV F (fun g => w.heap.size ≤ g) w' [.int .i64 t.kind, .int .i64 t.n, .string t.s, .slice a t.kids.length c] t ∧ RdS w' b s p bad ∧ RdF b w w' ∧ p ≤ s.size + 1 ∧ ((bad = false ∧ p ≤ s.size ∧ m = some (t, fromB s p)) ∨ (bad = true ∧ m = none))
theorem RdPost.fin {b p F : Nat} {s : ByteArray} {m : Option (PxT × List UInt8)} {w W : World} {t : PxT} {a : Option Addr} {c : Nat} {bad : Bool} (hb : b < w.heap.size) (R : RdS W b s p bad) (D : RdF b w W) (hp : p ≤ s.size + 1)
    (h : PV F (fun g => w.heap.size < g) W [.int .i64 t.kind, .int .i64 t.n, .string t.s, .slice a t.kids.length c] t) (hm : (bad = false ∧ p ≤ s.size ∧ m = some (t, fromB s p)) ∨ (bad = true ∧ m = none)) :
    RdPost b s m F w (.returned (.agg #[.int .i64 t.kind, .int .i64 t.n, .string t.s, .slice a t.kids.length c])) (put4 W w.heap.size (.int .i64 t.kind) (.int .i64 t.n) (.string t.s) (.slice a t.kids.length c)) :=
  ⟨t, a, c, p, bad, rfl, (h.kept (put4_kept W w.heap.size _ _ _ _) (fun g hg e => by omega)).to (fun _ _ _ => rfl) (fun g hg _ => by omega), R.kept (put4_kept W w.heap.size _ _ _ _) (by omega),
    ⟨fun k h1 h2 => (put4_kept W w.heap.size _ _ _ _ k (Nat.lt_of_lt_of_le h1 D.size) (by omega)).trans (D.kept k h1 h2), D.below.trans ((((Below.refl b W).setCell (p := ⟨w.heap.size, 0, none⟩) (by show b ≤ w.heap.size; omega) _).setCell (p := ⟨w.heap.size, 1, none⟩) (by show b ≤ w.heap.size; omega) _ |>.setCell (p := ⟨w.heap.size, 2, none⟩) (by show b ≤ w.heap.size; omega) _).setCell (p := ⟨w.heap.size, 3, none⟩) (by show b ≤ w.heap.size; omega) _)⟩, hp, hm⟩
/-- What l21Str reads: l stands behind the first quote. -/
noncomputable def strR (l : List UInt8) : Option (PxT × List UInt8) := match scanQ l with
  | none => none
  | some (p, r) => match unquote (34 :: p) with
    | none => none
    | some s => some (tStr s, r)
theorem scanQ_34 (l : List UInt8) : scanQ (34 :: l) = some ([34], l) := by conv => lhs; unfold scanQ
                                                                           rw [if_pos rfl]
theorem scanQ_other {x : UInt8} {l : List UInt8} (h1 : x ≠ 34) (h2 : x ≠ 92) : scanQ (x :: l) = (scanQ l).map fun p => (x :: p.1, p.2) := by
  conv => lhs; unfold scanQ
  rw [if_neg h1, if_neg h2]
theorem scanQ_esc (x : UInt8) (l : List UInt8) : scanQ (92 :: x :: l) = (scanQ l).map fun p => (92 :: x :: p.1, p.2) := by
  conv => lhs; unfold scanQ
  rw [if_neg (by decide), if_pos rfl]
theorem scanQ_last : scanQ [92] = none := by
  unfold scanQ
  rw [if_neg (by decide), if_pos rfl]
theorem take_from {s : ByteArray} {k p : Nat} (h : k ≤ p) (hp : p < s.size) : (fromB s k).take (p + 1 - k) = (fromB s k).take (p - k) ++ [s[p]] := by
  rw [show p + 1 - k = (p - k) + 1 by omega, List.take_add_one]
  congr 1
  unfold fromB
  rw [List.getElem?_drop, show k + (p - k) = p by omega, List.getElem?_eq_getElem (by exact hp), byte_at hp]
  rfl
/-- Where a scan stands: what is behind gives what the whole gives. -/
def ScAt (s : ByteArray) (k p : Nat) : Prop := scanQ (fromB s k) = (scanQ (fromB s p)).map fun x => ((fromB s k).take (p - k) ++ x.1, x.2)
theorem scAt_start (s : ByteArray) (k : Nat) : ScAt s k k := by
  unfold ScAt
  rw [Nat.sub_self]
  cases scanQ (fromB s k) <;> rfl
theorem scAt_one {s : ByteArray} {k p : Nat} (h : ScAt s k p) (hk : k ≤ p) (hp : p < s.size) (h1 : s[p] ≠ 34) (h2 : s[p] ≠ 92) : ScAt s k (p + 1) := by
  unfold ScAt at h ⊢
  rw [h, fromB_cons hp, scanQ_other h1 h2, take_from hk hp]
  cases scanQ (fromB s (p + 1)) <;> simp
theorem scAt_two {s : ByteArray} {k p : Nat} (h : ScAt s k p) (hk : k ≤ p) (hp : p + 1 < s.size) (h2 : s[p] = 92) : ScAt s k (p + 2) := by
  unfold ScAt at h ⊢
  rw [h, fromB_cons (show p < s.size by omega), fromB_cons hp, h2, scanQ_esc, take_from (by omega : k ≤ p + 1) hp, take_from hk (by omega), h2]
  cases scanQ (fromB s (p + 1 + 1)) <;> simp
theorem scAt_last {s : ByteArray} {k p : Nat} (h : ScAt s k p) (hp : p < s.size) (hl : s.size ≤ p + 1) (h2 : s[p] = 92) : ScAt s k (p + 2) := by
  unfold ScAt at h ⊢
  rw [h, fromB_cons hp, fromB_nil hl, h2, scanQ_last, fromB_nil (by omega : s.size ≤ p + 2)]
  rfl
theorem scAt_end {s : ByteArray} {k p : Nat} (h : ScAt s k p) (hp : s.size ≤ p) : strR (fromB s k) = none := by
  unfold ScAt at h
  unfold strR
  rw [h, fromB_nil hp]
  rfl
theorem scAt_done {s : ByteArray} {k p : Nat} (h : ScAt s (k + 1) p) (hk : k + 1 ≤ p) (hp : p < s.size) (h34 : s[p] = 34) (hq : s[k]'(by omega) = 34) :
    strR (fromB s (k + 1)) = match unquote (s.extract k (p + 1)).data.toList with
      | none => none
      | some t => some (tStr t, fromB s (p + 1)) := by
  have e : (s.extract k (p + 1)).data.toList = 34 :: ((fromB s (k + 1)).take (p - (k + 1)) ++ [34]) := by
    rw [ByteArray.data_extract, Array.toList_extract]
    show ((fromB s k).take (p + 1 - k)) = _
    rw [take_from (by omega) hp, h34, fromB_cons (show k < s.size by omega), hq, show p - k = (p - (k + 1)) + 1 by omega, List.take_succ_cons]
    rfl
  unfold ScAt at h
  unfold strR
  rw [h, fromB_cons hp, h34, scanQ_34, e]
  rfl
theorem pv_leaf {S : Nat → Prop} {w : World} {k n : Int} {s : ByteArray} (hwf : (PxT.mk k n s []).wf) : PV 1 S w [.int .i64 k, .int .i64 n, .string s, .slice none 0 0] (.mk k n s []) :=
  ⟨none, 0, rfl, hwf, Nat.le_refl _, by omega, fun h => absurd h (by show ¬ 0 < ([] : List PxT).length; simp)⟩
theorem wf0 {k : Int} {s : ByteArray} {ks : List PxT} (hk : 0 ≤ k ∧ k ≤ 7) (hs : s.size ≤ 9223372036854775807) : (PxT.mk k 0 s ks).wf := ⟨⟨by show _ ≤ k; omega, by show k ≤ _; omega⟩, ⟨by show _ ≤ (0 : Int); omega, by show (0 : Int) ≤ _; omega⟩, hs⟩

set_option maxRecDepth 100000 in
set_option maxHeartbeats 8000000 in
theorem l21Str_c (s : ByteArray) (k b : Nat) (hs : s.size ≤ 1048576) (hk : k < s.size) (hq : s[k] = 34) (w : World) (R : RdS w b s k false) :
    Calls Try.prog 62 #[.pointer (some ⟨b, 0, none⟩)] w (RdPost b s (strR (fromB s (k + 1))) 1 w) := by
  have hbl := R.lt
  go_enter Try.func62, Try.ntmps62
  go_upto_region 1 with fail
  have E : RowAt (w.alloc (.cells #[.int .i64 0, .int .i64 0, .string ⟨#[]⟩, .slice none 0 0] 63)) (w.heap.size) 0 [.int .i64 0, .int .i64 0, .string ⟨#[]⟩, .slice none 0 0] := RowAt.box w #[.int .i64 0, .int .i64 0, .string ⟨#[]⟩, .slice none 0 0] 63
  have EW : Wr (w.alloc (.cells #[.int .i64 0, .int .i64 0, .string ⟨#[]⟩, .slice none 0 0] 63)) (w.heap.size) 0 4 := Wr.box w #[.int .i64 0, .int .i64 0, .string ⟨#[]⟩, .slice none 0 0] 63
  have hw : Below w.heap.size w (w.alloc (.cells #[.int .i64 0, .int .i64 0, .string ⟨#[]⟩, .slice none 0 0] 63)) := by go_grown
  generalize (w.alloc (.cells #[.int .i64 0, .int .i64 0, .string ⟨#[]⟩, .slice none 0 0] 63)) = w0 at *
  have hsE := World.block_lt_of_cell? _ _ E.box4.1; dsimp only at hsE
  have R0 := R.below hw
  have F0 : RdF b w w0 := RdF.of hw (by omega)
  obtain ⟨r_0, r_1, r_2⟩ := R0.row.box3
  have f_1 := R0.wr.frz 1 (by omega)
  have hbl0 := R0.lt
  have ek : ∀ W, RdF b w0 W → RowAt W w.heap.size 0 [.int .i64 0, .int .i64 0, .string ⟨#[]⟩, .slice none 0 0] ∧ Wr W w.heap.size 0 4 := fun W D => ⟨E.kept D.kept (by omega), EW.kept D.kept (by omega)⟩
  replace ek := Lib.hid ek
  go_upto_region 3 with fail
  have R1 := R0.setAt (k := k + 1)
  rw [show ((k + 1 : Nat) : Int) = (k : Int) + 1 by omega] at R1
  have F1 : RdF b w0 (w0.setCell ⟨b, 1, none⟩ (.int .i64 ((k : Int) + 1))) := (RdF.refl b w0).set 1 _
  have hst := scAt_start s (k + 1)
  clear E EW R0 r_0 r_1 r_2 f_1 R
  go_loopw [38] (fun z wr => ∃ p : Nat, k + 1 ≤ p ∧ p ≤ s.size + 1 ∧ Hid (ScAt s (k + 1) p) ∧ RdS wr b s p false ∧ RdF b w0 wr) (fun _ wr => s.size + 2 - placeOf b wr)
  case atStart => exact ⟨k + 1, by omega, by omega, hst, R1, F1⟩
  case round =>
    clear R1 F1 hst
    obtain ⟨p, hp0, hp1, hsc, R, F⟩ := hrel
    obtain ⟨r_0, r_1, r_2⟩ := R.row.box3
    have hbl := R.lt
    have hpl := R.place
    have d0 : decide ((p : Int) < (s.size : Int)) = decide (p < s.size) := by simp
    by_cases hlt : p < s.size
    · have d1 : decide ((p : Int) < (s.size : Int)) = true := decide_eq_true (by omega)
      clear d0
      have ne : ∀ (x c : UInt8), (x.toNat : Int) ≠ (c.toNat : Int) → x ≠ c := fun x c h e => h (by rw [e])
      have eq : ∀ (x c : UInt8), (x.toNat : Int) = (c.toNat : Int) → x = c := fun x c h => UInt8.toNat_inj.1 (by omega)
      by_cases h34 : (s[p].toNat : Int) = 34
      · have e1 : ((s[p].toNat : Int) != 34) = false := by rw [h34]; rfl
        have hm := scAt_done hsc.out hp0 hlt (eq _ _ h34) hq
        have cu := fun W => spec_Unquote_c (s.extract k (p + 1)) (by rw [ByteArray.size_extract]; omega) W
        have hex : (s.extract k (p + 1)).size ≤ 1048576 := by rw [ByteArray.size_extract]; omega
        have hul : ∀ t, unquote (s.extract k (p + 1)).data.toList = some t → t.size ≤ 1048576 := fun t ht => by
          have h1 := unquote_some.1 ht
          have h2 := congrArg List.length h1
          rw [quoteS_list] at h2
          simp only [List.length_cons, List.length_append, List.length_nil] at h2
          have h6 : (s.extract k (p + 1)).data.toList.length = (s.extract k (p + 1)).size := rfl
          have h3 : ∀ l : List UInt8, l.length ≤ (l.flatMap quoteB).length := by
            intro l
            induction l with
            | nil => simp
            | cons x l ih => have := (quoteB_len x).2; simp at *; omega
          have h4 := h3 t.data.toList
          have h5 : t.data.toList.length = t.size := rfl
          omega
        generalize hu : unquote (s.extract k (p + 1)).data.toList = u at *
        replace cu := Lib.hid cu; replace hm := Lib.hid hm; replace hu := Lib.hid hu; replace hpl := Lib.hid hpl; replace hul := Lib.hid hul
        have q1 : (0 : Int) ≤ (p : Int) + 1 := by omega
        have q2 : (k : Int) ≤ (p : Int) + 1 := by omega
        have q3 : (p : Int) + 1 ≤ (s.size : Int) := by omega
        have q4 : ((p : Int) + 1).toNat = p + 1 := by omega
        have d2 : decide ((s.size : Int) ≤ (p : Int)) = false := decide_eq_false (by omega)
        clear h34
        go_upto_region 3 with fail
        (refine wp_region_ext_lit (by kernel_rfl) (by kernel_rfl) ?_; (repeat (any_goals (first | go_big_quiet_step (fail) | quiet_step (fail) | (refine wpQuiet_step (fun K hK => ?_); go_simp; split <;> (refine hK _ ?_; clear hK K))))); all_goals (refine wpQuiet_nil ?_; rintro w1 ⟨⟨_, hb1⟩, rfl⟩))
        have R1 := R.below hb1
        obtain ⟨m_0, m_1, m_2⟩ := R1.row.box3
        have hbl1 := R1.lt
        go_upto_region 7 with fail
        (refine wp_region_ext_lit (by kernel_rfl) (by kernel_rfl) ?_; (repeat (any_goals (first | go_big_quiet_step (fail) | quiet_step (fail) | (refine wpQuiet_step (fun K hK => ?_); go_simp; split <;> (refine hK _ ?_; clear hK K))))); all_goals (refine wpQuiet_nil ?_; rintro w2 ⟨⟨_, hb2⟩, rfl⟩))
        have R2 := R1.below hb2
        obtain ⟨n_0, n_1, n_2⟩ := R2.row.box3
        have f_1 := R2.wr.frz 1 (by omega)
        have hbl2 := R2.lt
        have F2 := (F.trans (RdF.of hb1 (by omega))).trans (RdF.of hb2 (by omega))
        go_upto_region 11 with fail
        obtain ⟨wS, hwS⟩ : ∃ W, W = w2.setCell ⟨b, 1, none⟩ (.int .i64 ((p : Int) + 1)) := ⟨_, rfl⟩
        rw [← hwS]
        have R3 : RdS wS b s (p + 1) false := by have h := R2.setAt (k := p + 1); rw [show ((p + 1 : Nat) : Int) = (p : Int) + 1 by omega, ← hwS] at h; exact h
        have F3 : RdF b w0 wS := by rw [hwS]; exact F2.set 1 _
        clear hwS m_0 m_1 m_2 n_0 n_1 n_2 f_1 r_0 r_1 r_2
        obtain ⟨s_0, s_1, s_2⟩ := R3.row.box3
        rw [show ((p + 1 : Nat) : Int) = (p : Int) + 1 by omega] at s_1
        have hbl3 := R3.lt
        cases u with
        | some tt =>
          have hts := hul.out tt rfl
          replace cu : Hid (∀ W, Calls Try.prog 84 #[.string (s.extract k (p + 1))] W fun e w' => e = .returned (.tuple #[.string tt, .bool true]) ∧ Below W.heap.size W w') := cu
          (refine wp_region_ext_lit (by kernel_rfl) (by kernel_rfl) ?_; (repeat (any_goals (first | go_big_quiet_step ((go_at_call 84; with_reducible exact Calls.ext (cu.out _))) | quiet_step ((go_at_call 84; with_reducible exact Calls.ext (cu.out _))) | (refine wpQuiet_step (fun K hK => ?_); go_simp; split <;> (refine hK _ ?_; clear hK K))))); all_goals (refine wpQuiet_nil ?_; rintro w3 ⟨⟨_, hb3⟩, rfl⟩))
          have R4 := R3.below hb3
          have F4 := F3.trans (RdF.of hb3 (by omega))
          obtain ⟨E4, EW4⟩ := ek.out _ F4
          obtain ⟨e_0, e_1', e_2, e_3⟩ := E4.box4
          have ef_0 := EW4.frz 0 (by omega); have ef_1 := EW4.frz 1 (by omega); have ef_2 := EW4.frz 2 (by omega); have ef_3 := EW4.frz 3 (by omega)
          have hsE4 := World.block_lt_of_cell? _ _ e_0; dsimp only at hsE4
          obtain ⟨t_0, t_1, t_2⟩ := R4.row.box3
          have f_2 := R4.wr.frz 2 (by omega)
          have hbl4 := R4.lt
          have hbE : ¬ b = w.heap.size := by omega
          have hEb : ¬ w.heap.size = b := by omega
          go_wp2_with fail
          obtain ⟨p_0, p_1, p_2, p_3⟩ := (put4_cells (x := .int .i64 2) (y := .int .i64 0) (z := .string tt) (u := .slice none 0 0) (E4) rfl).box4
          unfold put4 at p_0 p_1 p_2 p_3
          refine bodyPost_ret (v := .agg #[.int .i64 2, .int .i64 0, .string tt, .slice none 0 0]) (by simp [results, Try.results62, go_sem, p_0, p_1, p_2, p_3]) rfl ?_
          have hwf : (PxT.mk 2 0 tt []).wf := wf0 (k := 2) (by omega) (by omega)
          exact RdPost.fin (t := PxT.mk 2 0 tt []) (a := none) (c := 0) (by omega) R4 (F0.trans F4) (by omega) (pv_leaf hwf) (.inl ⟨rfl, by omega, hm.out⟩)
        | none =>
          replace cu : Hid (∀ W, Calls Try.prog 84 #[.string (s.extract k (p + 1))] W fun e w' => e = .returned (.tuple #[.string ⟨#[]⟩, .bool false]) ∧ Below W.heap.size W w') := cu
          (refine wp_region_ext_lit (by kernel_rfl) (by kernel_rfl) ?_; (repeat (any_goals (first | go_big_quiet_step ((go_at_call 84; with_reducible exact Calls.ext (cu.out _))) | quiet_step ((go_at_call 84; with_reducible exact Calls.ext (cu.out _))) | (refine wpQuiet_step (fun K hK => ?_); go_simp; split <;> (refine hK _ ?_; clear hK K))))); all_goals (refine wpQuiet_nil ?_; rintro w3 ⟨⟨_, hb3⟩, rfl⟩))
          have R4 := R3.below hb3
          have F4 := F3.trans (RdF.of hb3 (by omega))
          obtain ⟨E4, EW4⟩ := ek.out _ F4
          obtain ⟨e_0, e_1', e_2, e_3⟩ := E4.box4
          have ef_0 := EW4.frz 0 (by omega); have ef_1 := EW4.frz 1 (by omega); have ef_2 := EW4.frz 2 (by omega); have ef_3 := EW4.frz 3 (by omega)
          have hsE4 := World.block_lt_of_cell? _ _ e_0; dsimp only at hsE4
          obtain ⟨t_0, t_1, t_2⟩ := R4.row.box3
          have f_2 := R4.wr.frz 2 (by omega)
          have hbl4 := R4.lt
          have hbE : ¬ b = w.heap.size := by omega
          have hEb : ¬ w.heap.size = b := by omega
          go_wp2_with fail
          obtain ⟨p_0, p_1, p_2, p_3⟩ := (put4_cells (x := .int .i64 2) (y := .int .i64 0) (z := .string ⟨#[]⟩) (u := .slice none 0 0) (E4.set_other (g := b) (o := 2) hEb (.bool true)) rfl).box4
          unfold put4 at p_0 p_1 p_2 p_3
          refine bodyPost_ret (v := .agg #[.int .i64 2, .int .i64 0, .string ⟨#[]⟩, .slice none 0 0]) (by simp [results, Try.results62, go_sem, p_0, p_1, p_2, p_3]) rfl ?_
          have hwf : (PxT.mk 2 0 ⟨#[]⟩ []).wf := wf0 (k := 2) (by omega) (by decide)
          exact RdPost.fin (t := PxT.mk 2 0 ⟨#[]⟩ []) (a := none) (c := 0) (by omega) (R4.setBad true) (F0.trans (F4.set 2 _)) (by omega) (pv_leaf hwf) (.inr ⟨rfl, hm.out⟩)
      · have e1 : ((s[p].toNat : Int) != 34) = true := by rw [bne_iff_ne]; exact h34
        replace hpl := Lib.hid hpl
        by_cases h92 : (s[p].toNat : Int) = 92
        · have e2 : ((s[p].toNat : Int) == 92) = true := by rw [h92]; rfl
          have hsc2 : Hid (ScAt s (k + 1) (p + 2)) := by
            by_cases hl : p + 1 < s.size
            · exact scAt_two hsc.out hp0 hl (eq _ _ h92)
            · exact scAt_last hsc.out hlt (by omega) (eq _ _ h92)
          clear h34 h92
          go_upto_region 3 with fail
          (refine wp_region_ext_lit (by kernel_rfl) (by kernel_rfl) ?_; (repeat (any_goals (first | go_big_quiet_step (fail) | quiet_step (fail) | (refine wpQuiet_step (fun K hK => ?_); go_simp; split <;> (refine hK _ ?_; clear hK K))))); all_goals (refine wpQuiet_nil ?_; rintro w1 ⟨⟨_, hb1⟩, rfl⟩))
          have R1 := R.below hb1
          obtain ⟨m_0, m_1, m_2⟩ := R1.row.box3
          have hbl1 := R1.lt
          go_upto_region 4 with fail
          (refine wp_region_ext_lit (by kernel_rfl) (by kernel_rfl) ?_; (repeat (any_goals (first | go_big_quiet_step (fail) | quiet_step (fail) | (refine wpQuiet_step (fun K hK => ?_); go_simp; split <;> (refine hK _ ?_; clear hK K))))); all_goals (refine wpQuiet_nil ?_; rintro w2 ⟨⟨_, hb2⟩, rfl⟩))
          have R2 := R1.below hb2
          obtain ⟨n_0, n_1, n_2⟩ := R2.row.box3
          have f_1 := R2.wr.frz 1 (by omega)
          have hbl2 := R2.lt
          have hz1 := hb1.size
          go_wp2_with fail
          have R3 := (R2.setAt (k := p + 1)).setAt (k := p + 2)
          rw [show ((p + 1 : Nat) : Int) = (p : Int) + 1 by omega, show ((p + 2 : Nat) : Int) = (p : Int) + 1 + 1 by omega] at R3
          have hpl3 := R3.place
          go_roundw
          case rel => exact ⟨p + 2, by omega, by omega, hsc2, R3, (((F.trans (RdF.of hb1 (by omega))).trans (RdF.of hb2 (by omega))).set 1 _).set 1 _⟩
          case measure => rw [hpl3, hpl.out]; omega
        · have e2 : ((s[p].toNat : Int) == 92) = false := by rw [beq_eq_false_iff_ne]; exact h92
          have hsc2 : Hid (ScAt s (k + 1) (p + 1)) := scAt_one hsc.out hp0 hlt (ne _ _ h34) (ne _ _ h92)
          clear h34 h92
          go_upto_region 3 with fail
          (refine wp_region_ext_lit (by kernel_rfl) (by kernel_rfl) ?_; (repeat (any_goals (first | go_big_quiet_step (fail) | quiet_step (fail) | (refine wpQuiet_step (fun K hK => ?_); go_simp; split <;> (refine hK _ ?_; clear hK K))))); all_goals (refine wpQuiet_nil ?_; rintro w1 ⟨⟨_, hb1⟩, rfl⟩))
          have R1 := R.below hb1
          obtain ⟨m_0, m_1, m_2⟩ := R1.row.box3
          have hbl1 := R1.lt
          go_upto_region 4 with fail
          (refine wp_region_ext_lit (by kernel_rfl) (by kernel_rfl) ?_; (repeat (any_goals (first | go_big_quiet_step (fail) | quiet_step (fail) | (refine wpQuiet_step (fun K hK => ?_); go_simp; split <;> (refine hK _ ?_; clear hK K))))); all_goals (refine wpQuiet_nil ?_; rintro w2 ⟨⟨_, hb2⟩, rfl⟩))
          have R2 := R1.below hb2
          obtain ⟨n_0, n_1, n_2⟩ := R2.row.box3
          have f_1 := R2.wr.frz 1 (by omega)
          have hbl2 := R2.lt
          have hz1 := hb1.size
          go_wp2_with fail
          have R3 := R2.setAt (k := p + 1)
          rw [show ((p + 1 : Nat) : Int) = (p : Int) + 1 by omega] at R3
          have hpl3 := R3.place
          go_roundw
          case rel => exact ⟨p + 1, by omega, by omega, hsc2, R3, ((F.trans (RdF.of hb1 (by omega))).trans (RdF.of hb2 (by omega))).set 1 _⟩
          case measure => rw [hpl3, hpl.out]; omega
    · have d1 : decide ((p : Int) < (s.size : Int)) = false := decide_eq_false (by omega)
      have d2 : decide ((s.size : Int) ≤ (p : Int)) = true := decide_eq_true (by omega)
      have hm := Lib.hid (scAt_end hsc.out (by omega : s.size ≤ p))
      clear d0
      replace hpl := Lib.hid hpl
      go_upto_region 3 with fail
      (refine wp_region_ext_lit (by kernel_rfl) (by kernel_rfl) ?_; (repeat (any_goals (first | go_big_quiet_step (fail) | quiet_step (fail) | (refine wpQuiet_step (fun K hK => ?_); go_simp; split <;> (refine hK _ ?_; clear hK K))))); all_goals (refine wpQuiet_nil ?_; rintro w1 ⟨⟨_, hb1⟩, rfl⟩))
      have R1 := R.below hb1
      obtain ⟨m_0, m_1, m_2⟩ := R1.row.box3
      have hbl1 := R1.lt
      go_upto_region 7 with fail
      (refine wp_region_ext_lit (by kernel_rfl) (by kernel_rfl) ?_; (repeat (any_goals (first | go_big_quiet_step (fail) | quiet_step (fail) | (refine wpQuiet_step (fun K hK => ?_); go_simp; split <;> (refine hK _ ?_; clear hK K))))); all_goals (refine wpQuiet_nil ?_; rintro w2 ⟨⟨_, hb2⟩, rfl⟩))
      have R4 := R1.below hb2
      have F4 := (F.trans (RdF.of hb1 (by omega))).trans (RdF.of hb2 (by omega))
      obtain ⟨E4, EW4⟩ := ek.out _ F4
      obtain ⟨e_0, e_1', e_2, e_3⟩ := E4.box4
      have ef_0 := EW4.frz 0 (by omega); have ef_1 := EW4.frz 1 (by omega); have ef_2 := EW4.frz 2 (by omega); have ef_3 := EW4.frz 3 (by omega)
      have hsE4 := World.block_lt_of_cell? _ _ e_0; dsimp only at hsE4
      obtain ⟨t_0, t_1, t_2⟩ := R4.row.box3
      have f_2 := R4.wr.frz 2 (by omega)
      have hbl4 := R4.lt
      have hbE : ¬ b = w.heap.size := by omega
      have hEb : ¬ w.heap.size = b := by omega
      go_wp2_with fail
      obtain ⟨p_0, p_1, p_2, p_3⟩ := (put4_cells (x := .int .i64 0) (y := .int .i64 0) (z := .string ⟨#[]⟩) (u := .slice none 0 0) (E4.set_other (g := b) (o := 2) hEb (.bool true)) rfl).box4
      unfold put4 at p_0 p_1 p_2 p_3
      refine bodyPost_ret (v := .agg #[.int .i64 0, .int .i64 0, .string ⟨#[]⟩, .slice none 0 0]) (by simp [results, Try.results62, go_sem, p_0, p_1, p_2, p_3]) rfl ?_
      have hwf : (PxT.mk 0 0 ⟨#[]⟩ []).wf := wf0 (k := 0) (by omega) (by decide)
      exact RdPost.fin (t := PxT.mk 0 0 ⟨#[]⟩ []) (a := none) (c := 0) (by omega) (R4.setBad true) (F0.trans (F4.set 2 _)) (by omega) (pv_leaf hwf) (.inr ⟨rfl, hm.out⟩)
end Go.Proofs.Ytpblhonnknmjjaa

/- The reference's l21Pair and l21Read. -/
namespace Go.Proofs.Ytpblhonnknmjjaa
open Go.RowKit
set_option linter.unusedVariables false
set_option linter.unusedSimpArgs false
attribute [local go_sem] Ext.cell

def argB (l : List UInt8) : Bool := isAt [32] (wRest l) && !isAt kColons (wRest l)
theorem readIn_unit {rd : Rd} {s : ByteArray} {k : Nat} (h : isAt [41] (fromB s k) = true) : readIn rd (fromB s k) = some (tUnit, fromB s (k + 1)) := by
  unfold readIn
  rw [if_pos h, fromB_drop]
def readArg (rd : Rd) : Rd := fun l => match rd ((wRest l).drop 1) with
    | none => none
    | some (k, r) => if isAt [41] r then some (tCon1 ⟨(wOf l).toArray⟩ k, r.drop 1) else none
def readTwo (rd : Rd) : Rd := fun l => match rd l with
    | none => none
    | some (a, r) =>
      if isAt kColons r then match rd (r.drop 4) with
        | none => none
        | some (b, r2) => if isAt [41] r2 then some (tCons a b, r2.drop 1) else none
      else if isAt kComma r then match rd (r.drop 2) with
        | none => none
        | some (b, r2) => if isAt [41] r2 then some (tPair a b, r2.drop 1) else none
      else none
theorem readIn_arg {rd : Rd} {l : List UInt8} (h : isAt [41] l = false) (hu : upHead l = true) (ha : argB l = true) : readIn rd l = readArg rd l := by
  unfold argB at ha
  unfold readIn
  rw [if_neg (by rw [h]; decide), if_pos (by rw [hu, ha]; rfl)]
  rfl
theorem readIn_two {rd : Rd} {l : List UInt8} (h : isAt [41] l = false) (hu : upHead l = false ∨ argB l = false) : readIn rd l = readTwo rd l := by
  unfold argB at hu
  unfold readIn
  rw [if_neg (by rw [h]; decide), if_neg (by rcases hu with hu | hu <;> rw [hu] <;> simp)]
  rfl
theorem at_le {s t : ByteArray} {k : Nat} (h0 : 0 < t.size) (h : isAt t.data.toList (fromB s k) = true) : k + t.size ≤ s.size := by
  rcases Nat.lt_or_ge s.size (k + t.size) with h1 | h1
  · rw [isAt_far h0 h1] at h; cases h
  · exact h1
/-- What the reader ends with: the place, bad or not, and what the plain reader gives. -/
def Ends (s : ByteArray) (m : Option (PxT × List UInt8)) (t : PxT) (p : Nat) (bad : Bool) : Prop := (bad = false ∧ p ≤ s.size ∧ m = some (t, fromB s p)) ∨ (bad = true ∧ m = none)
def q41 (s : ByteArray) (p : Nat) : Bool := isAt [41] (fromB s p)
theorem q41_le {s : ByteArray} {p : Nat} (h : q41 s p = true) : p + 1 ≤ s.size := at_le (t := ⟨#[41]⟩) (by decide) h
theorem ends_arg {rd : Rd} {s : ByteArray} {k p : Nat} {t : PxT} {bad : Bool} (h : Ends s (rd (fromB s (k + (wOf (fromB s k)).length + 1))) t p bad) :
    Ends s (readArg rd (fromB s k)) (tCon1 ⟨(wOf (fromB s k)).toArray⟩ t) (if q41 s p then p + 1 else p) (if q41 s p then bad else true) := by
  unfold readArg
  rw [wRest_at, fromB_drop]
  rcases h with ⟨rfl, h1, h2⟩ | ⟨rfl, h2⟩
  · rw [h2]
    cases hq : q41 s p with
    | true =>
      refine .inl ⟨rfl, q41_le hq, ?_⟩
      dsimp only
      unfold q41 at hq
      rw [if_pos hq, fromB_drop]; rfl
    | false =>
      refine .inr ⟨rfl, ?_⟩
      dsimp only
      unfold q41 at hq
      rw [if_neg (by rw [hq]; decide)]
  · rw [h2]
    exact .inr ⟨by split <;> rfl, rfl⟩
theorem ends_cons {rd : Rd} {s : ByteArray} {k pA p : Nat} {ta tb : PxT} {badA bad : Bool} (hA : Ends s (rd (fromB s k)) ta pA badA) (hq : isAt kColons (fromB s pA) = true)
    (hB : Ends s (if badA then none else rd (fromB s (pA + 4))) tb p bad) : Ends s (readTwo rd (fromB s k)) (tCons ta tb) (if q41 s p then p + 1 else p) (if q41 s p then bad else true) := by
  unfold readTwo
  rcases hA with ⟨rfl, h1, h2⟩ | ⟨rfl, h2⟩
  · rw [h2]
    dsimp only
    rw [if_pos hq, fromB_drop]
    rcases hB with ⟨rfl, h3, h4⟩ | ⟨rfl, h4⟩
    · rw [if_neg (by decide)] at h4
      rw [h4]
      cases hq : q41 s p with
      | true =>
        refine .inl ⟨rfl, q41_le hq, ?_⟩
        dsimp only
        unfold q41 at hq
        rw [if_pos hq, fromB_drop]; rfl
      | false =>
        refine .inr ⟨rfl, ?_⟩
        dsimp only
        unfold q41 at hq
        rw [if_neg (by rw [hq]; decide)]
    · rw [if_neg (by decide)] at h4
      rw [h4]
      exact .inr ⟨by split <;> rfl, rfl⟩
  · rw [h2]
    rcases hB with ⟨rfl, h3, h4⟩ | ⟨rfl, h4⟩
    · rw [if_pos rfl] at h4; cases h4
    · exact .inr ⟨by split <;> rfl, rfl⟩
theorem ends_pair {rd : Rd} {s : ByteArray} {k pA p : Nat} {ta tb : PxT} {badA bad : Bool} (hA : Ends s (rd (fromB s k)) ta pA badA) (hq : isAt kColons (fromB s pA) = false)
    (hB : Ends s (if (if isAt kComma (fromB s pA) then badA else true) then none else rd (fromB s (if isAt kComma (fromB s pA) then pA + 2 else pA))) tb p bad) : Ends s (readTwo rd (fromB s k)) (tPair ta tb) (if q41 s p then p + 1 else p) (if q41 s p then bad else true) := by
  unfold readTwo
  cases hc : isAt kComma (fromB s pA) with
  | false =>
    rw [hc] at hB
    rcases hB with ⟨rfl, h3, h4⟩ | ⟨rfl, h4⟩
    · simp at h4
    · refine .inr ⟨by split <;> rfl, ?_⟩
      rcases hA with ⟨rfl, h1, h2⟩ | ⟨rfl, h2⟩
      · rw [h2]
        dsimp only
        rw [if_neg (by rw [hq]; decide), if_neg (by rw [hc]; decide)]
      · rw [h2]
  | true =>
    rw [hc] at hB
    simp only [if_true] at hB
    rcases hA with ⟨rfl, h1, h2⟩ | ⟨rfl, h2⟩
    · rw [h2]
      dsimp only
      rw [if_neg (by rw [hq]; decide), if_pos hc, fromB_drop]
      rcases hB with ⟨rfl, h3, h4⟩ | ⟨rfl, h4⟩
      · rw [if_neg (by decide)] at h4
        rw [h4]
        cases hq : q41 s p with
        | true =>
          refine .inl ⟨rfl, q41_le hq, ?_⟩
          dsimp only
          unfold q41 at hq
          rw [if_pos hq, fromB_drop]; rfl
        | false =>
          refine .inr ⟨rfl, ?_⟩
          dsimp only
          unfold q41 at hq
          rw [if_neg (by rw [hq]; decide)]
      · rw [if_neg (by decide)] at h4
        rw [h4]
        exact .inr ⟨by split <;> rfl, rfl⟩
    · rw [h2]
      rcases hB with ⟨rfl, h3, h4⟩ | ⟨rfl, h4⟩
      · rw [if_pos rfl] at h4; cases h4
      · exact .inr ⟨by split <;> rfl, rfl⟩
end Go.Proofs.Ytpblhonnknmjjaa

/- How much a value holds that was read: plain law. What TextData answers. -/
namespace Go.Proofs.Ytpblhonnknmjjaa
open Go.RowKit
set_option linter.unusedVariables false
set_option linter.unusedSimpArgs false

/-- How much a tree holds. -/
def mT : Nat → PxT → Nat
  | 0, _ => 0
  | f + 1, t => 1 + t.kids.length + t.s.size + (t.kids.map (mT f)).sum
theorem szT_mT : ∀ (f : Nat) (t : PxT), szT f t ≤ mT f t
  | 0, t => Nat.le_refl _
  | f + 1, t => by
    have h : ∀ ks : List PxT, (ks.map (szT f)).sum ≤ (ks.map (mT f)).sum := by
      intro ks
      induction ks with
      | nil => simp
      | cons k ks ih => have := szT_mT f k; simp; omega
    have := h t.kids
    simp only [szT, mT]
    omega
theorem layK_bulk {L : Nat → PxT → List GDNode} {z : PxT → Nat} (h : ∀ nx k, bulkS GDNode.bulk (L nx k) ≤ (z k : Int)) : ∀ (ks : List PxT) (nx : Nat), bulkS GDNode.bulk (layK L nx ks).2 ≤ ((ks.map z).sum : Nat)
  | [], nx => by simp [layK, bulkS]
  | c :: ks, nx => by
    have h1 := layK_bulk h ks (nx + (L nx c).length)
    have h2 := h nx c
    simp only [layK, bulkS, List.length_append, List.map_append, List.sum_append, List.map_cons, List.sum_cons] at *
    push_cast
    push_cast at h1
    omega
theorem layT_bulk : ∀ (f at_ : Nat) (t : PxT), bulkS GDNode.bulk (layT f at_ t) ≤ (mT f t : Int)
  | 0, at_, t => by simp [layT, bulkS, mT]
  | f + 1, at_, t => by
    have h := layK_bulk (L := layT f) (z := mT f) (fun nx k => layT_bulk f nx k) t.kids (at_ + 1)
    have hl := layK_len (layT f) t.kids (at_ + 1)
    simp only [layT, mT]
    have e : bulkS GDNode.bulk (⟨t.kind, t.n, t.s, (layK (layT f) (at_ + 1) t.kids).1⟩ :: (layK (layT f) (at_ + 1) t.kids).2) = 1 + ((t.s.size : Int) + (t.kids.length : Int)) + bulkS GDNode.bulk (layK (layT f) (at_ + 1) t.kids).2 := by
      simp only [bulkS, List.length_cons, List.map_cons, List.sum_cons, GDNode.bulk]
      rw [hl]
      push_cast
      omega
    rw [e]
    push_cast
    push_cast at h
    omega
theorem scanQ_len : ∀ {l p r : List UInt8}, scanQ l = some (p, r) → l = p ++ r
  | [], p, r, h => by simp [scanQ] at h
  | b :: l, p, r, h => by
    unfold scanQ at h
    split at h
    · rename_i hb
      injection h with h; injection h with h1 h2
      rw [hb, ← h1, ← h2]; rfl
    · split at h
      · rename_i _ hb
        cases l with
        | nil => cases h
        | cons c l =>
          dsimp only at h
          cases hs : scanQ l with
          | none => rw [hs] at h; cases h
          | some q =>
            rw [hs] at h
            injection h with h; injection h with h1 h2
            have := scanQ_len (l := l) (p := q.1) (r := q.2) hs
            rw [← h1, ← h2, hb, this]; rfl
      · cases hs : scanQ l with
        | none => rw [hs] at h; cases h
        | some q =>
          rw [hs] at h
          injection h with h; injection h with h1 h2
          have := scanQ_len (l := l) (p := q.1) (r := q.2) hs
          rw [← h1, ← h2, this]; rfl
theorem flat_len (l : List UInt8) : l.length ≤ (l.flatMap quoteB).length := by
  induction l with
  | nil => simp
  | cons x l ih => have := (quoteB_len x).2; simp at *; omega
theorem unquote_len {l : List UInt8} {t : ByteArray} (h : unquote l = some t) : t.size + 2 ≤ l.length := by
  have h1 := unquote_some.1 h
  rw [quoteS_list] at h1
  have h2 := congrArg List.length h1
  simp only [List.length_cons, List.length_append, List.length_nil] at h2
  have h3 := flat_len t.data.toList
  have h4 : t.data.toList.length = t.size := rfl
  omega
/-- What a part of a text that is read may hold. -/
def Small (l r : List UInt8) (t : PxT) : Prop := r.length ≤ l.length ∧ ∀ F, mT F t ≤ 1 + 2 * (l.length - r.length)
theorem mT_leaf (F : Nat) (k n : Int) (s : ByteArray) : mT F (.mk k n s []) ≤ 1 + s.size := by
  cases F with
  | zero => simp [mT]
  | succ F => simp [mT, PxT.kids, PxT.s]
theorem mT_two (F : Nat) (a b : PxT) {x y : Nat} (ha : ∀ F, mT F a ≤ x) (hb : ∀ F, mT F b ≤ y) : mT F (tPair a b) ≤ 3 + x + y := by
  cases F with
  | zero => simp [mT]
  | succ F =>
    have := ha F; have := hb F
    simp only [mT, tPair, PxT.kids, PxT.s, List.length_cons, List.length_nil, List.map_cons, List.map_nil, List.sum_cons, List.sum_nil]
    have : ByteArray.empty.size = 0 := rfl
    omega
theorem mT_one (F : Nat) (s : ByteArray) (a : PxT) {x : Nat} (ha : ∀ F, mT F a ≤ x) : mT F (tCon1 s a) ≤ 2 + s.size + x := by
  cases F with
  | zero => simp [mT]
  | succ F =>
    have := ha F
    simp only [mT, tCon1, PxT.kids, PxT.s, List.length_cons, List.length_nil, List.map_cons, List.map_nil, List.sum_cons, List.sum_nil]
    omega
theorem mT_cons (F : Nat) (a b : PxT) {x y : Nat} (ha : ∀ F, mT F a ≤ x) (hb : ∀ F, mT F b ≤ y) : mT F (tCons a b) ≤ 7 + x + y := by
  have h := mT_one F ⟨sCons.toArray⟩ (tPair a b) (fun F => mT_two F a b ha hb)
  have e : (⟨sCons.toArray⟩ : ByteArray).size = 2 := rfl
  have : mT F (tCons a b) = mT F (tCon1 ⟨sCons.toArray⟩ (tPair a b)) := rfl
  omega
theorem isAt_len {t l : List UInt8} (h : isAt t l = true) : t.length ≤ l.length := by
  unfold isAt at h
  exact (List.isPrefixOf_iff_prefix.1 h).length_le
theorem wOf_split (l : List UInt8) : (wOf l).length + (wRest l).length = l.length := by
  have := List.takeWhile_append_dropWhile (p := fun b => !stopB b) (l := l)
  have h := congrArg List.length this
  rw [List.length_append] at h
  exact h
theorem readIn_small {rd : Rd} (hrd : ∀ l t r, rd l = some (t, r) → Small l r t) {l : List UInt8} {t : PxT} {r : List UInt8} (h : readIn rd l = some (t, r)) : Small (40 :: l) r t := by
  unfold readIn at h
  split at h
  · rename_i h1
    have := isAt_len h1
    injection h with h; injection h with e1 e2
    subst e1 e2
    refine ⟨by simp; omega, fun F => ?_⟩
    have := mT_leaf F 6 0 ByteArray.empty
    have e : ByteArray.empty.size = 0 := rfl
    show mT F (.mk 6 0 ByteArray.empty []) ≤ _
    omega
  · split at h
    · rename_i h0 h1
      simp only [Bool.and_eq_true] at h1
      have hl := isAt_len h1.2.1
      have hw := wOf_split l
      cases hr : rd ((wRest l).drop 1) with
      | none => rw [hr] at h; cases h
      | some q =>
        obtain ⟨k, r1⟩ := q
        rw [hr] at h
        dsimp only at h
        obtain ⟨h2, h3⟩ := hrd _ _ _ hr
        split at h
        · rename_i h4
          have := isAt_len h4
          injection h with h; injection h with e1 e2
          subst e1 e2
          rw [List.length_drop] at h2 h3
          simp only [List.length_singleton] at *
          refine ⟨by rw [List.length_drop, List.length_cons]; omega, fun F => ?_⟩
          have h5 := mT_one F ⟨(wOf l).toArray⟩ k h3
          have e : (⟨(wOf l).toArray⟩ : ByteArray).size = (wOf l).length := by show (wOf l).toArray.size = _; simp
          rw [List.length_drop, List.length_cons]
          omega
        · cases h
    · cases hr : rd l with
      | none => rw [hr] at h; cases h
      | some q =>
        obtain ⟨a, r1⟩ := q
        rw [hr] at h
        dsimp only at h
        obtain ⟨h2, h3⟩ := hrd _ _ _ hr
        split at h
        · rename_i h4
          have l4 := isAt_len h4
          have e4 : kColons.length = 4 := rfl
          cases hs : rd (r1.drop 4) with
          | none => rw [hs] at h; cases h
          | some q =>
            obtain ⟨b, r2⟩ := q
            rw [hs] at h
            dsimp only at h
            obtain ⟨h5, h6⟩ := hrd _ _ _ hs
            split at h
            · rename_i h7
              have l7 := isAt_len h7
              injection h with h; injection h with e1 e2
              subst e1 e2
              rw [List.length_drop] at h5 h6
              simp only [List.length_singleton] at *
              refine ⟨by rw [List.length_drop, List.length_cons]; omega, fun F => ?_⟩
              have h8 := mT_cons F a b h3 h6
              rw [List.length_drop, List.length_cons]
              omega
            · cases h
        · split at h
          · rename_i h4
            have l4 := isAt_len h4
            have e4 : kComma.length = 2 := rfl
            cases hs : rd (r1.drop 2) with
            | none => rw [hs] at h; cases h
            | some q =>
              obtain ⟨b, r2⟩ := q
              rw [hs] at h
              dsimp only at h
              obtain ⟨h5, h6⟩ := hrd _ _ _ hs
              split at h
              · rename_i h7
                have l7 := isAt_len h7
                injection h with h; injection h with e1 e2
                subst e1 e2
                rw [List.length_drop] at h5 h6
                simp only [List.length_singleton] at *
                refine ⟨by rw [List.length_drop, List.length_cons]; omega, fun F => ?_⟩
                have h8 := mT_two F a b h3 h6
                rw [List.length_drop, List.length_cons]
                omega
              · cases h
          · cases h
theorem readS_small : ∀ (f : Nat) (l : List UInt8) (t : PxT) (r : List UInt8), readS f l = some (t, r) → Small l r t
  | 0, l, t, r, h => by simp [readS] at h
  | f + 1, [], t, r, h => by simp [readS] at h
  | f + 1, b :: l, t, r, h => by
    unfold readS at h
    dsimp only at h
    split at h
    · rename_i hb
      subst hb
      exact readIn_small (readS_small f) h
    · split at h
      · cases hs : scanQ l with
        | none => rw [hs] at h; cases h
        | some q =>
          obtain ⟨p, r1⟩ := q
          rw [hs] at h
          dsimp only at h
          have hl := congrArg List.length (scanQ_len hs)
          rw [List.length_append] at hl
          cases hu : unquote (34 :: p) with
          | none => rw [hu] at h; cases h
          | some s =>
            rw [hu] at h
            have hz := unquote_len hu
            rw [List.length_cons] at hz
            injection h with h; injection h with e1 e2
            subst e1 e2
            refine ⟨by rw [List.length_cons]; omega, fun F => ?_⟩
            have := mT_leaf F 2 0 s
            rw [List.length_cons]
            show mT F (.mk 2 0 s []) ≤ _
            omega
      · have hw := wOf_split (b :: l)
        cases ht : textNum (wOf (b :: l)) with
        | some n =>
          rw [ht] at h
          injection h with h; injection h with e1 e2
          subst e1 e2
          refine ⟨by omega, fun F => ?_⟩
          have := mT_leaf F 3 n ByteArray.empty
          have e : ByteArray.empty.size = 0 := rfl
          show mT F (.mk 3 n ByteArray.empty []) ≤ _
          omega
        | none =>
          rw [ht] at h
          injection h with h; injection h with e1 e2
          subst e1 e2
          refine ⟨by omega, fun F => ?_⟩
          have := mT_leaf F 4 0 ⟨(wOf (b :: l)).toArray⟩
          have e : (⟨(wOf (b :: l)).toArray⟩ : ByteArray).size = (wOf (b :: l)).length := by show (wOf (b :: l)).toArray.size = _; simp
          show mT F (.mk 4 0 ⟨(wOf (b :: l)).toArray⟩ []) ≤ _
          omega
/-- What TextData answers: the value, if s is a right value's text. -/
noncomputable def textDataP (s : ByteArray) : Option GData := match readS 101 (fromB s 0) with
  | some (t, []) => if dataText ⟨layT 203 0 t⟩ = s then some ⟨layT 203 0 t⟩ else none
  | _ => none
end Go.Proofs.Ytpblhonnknmjjaa
