/- Parts of the proof, merged: DrawF, Rd2, Rd3. -/
import Derived.Test.YtpblhonnknmjjaaFd011
/- What a draw leaves alone: more on the cursor. -/
namespace Go.Proofs.Ytpblhonnknmjjaa
open Go.RowKit
set_option linter.unusedVariables false
set_option linter.unusedSimpArgs false

theorem Cur.after {W0 w w' : World} {b : Nat} (h : Cur W0 w b) (hb : Below w.heap.size w w') : Cur W0 w' b :=
  h.kept (Kept.below hb (S := fun _ => False)) (fun h => h) (h.below.trans (hb.mono h.below.size))
theorem DF.after {W0 a c d : World} {b : Nat} (h : DF W0 b a c) (hb : Below c.heap.size c d) : DF W0 b a d :=
  ⟨h.cur.after hb, h.kept.trans h.size (Kept.below hb), Nat.le_trans h.size hb.size⟩
theorem DF.box {W0 a c : World} {b : Nat} (h : DF W0 b a c) (o : Obj) : DF W0 b a (c.alloc o) := h.after (Below.alloc (Below.refl _ _) (Nat.le_refl _) _)
theorem DF.draws {W0 a c : World} {b : Nat} (h : DF W0 b a c) : DF W0 b a c.drew := h.after (Below.refl _ c).drew
/-- A store to a block made since a. -/
theorem DF.put {W0 a c : World} {b : Nat} (h : DF W0 b a c) {p : Addr} (hp : a.heap.size ≤ p.block) (hb : b < a.heap.size) (hW : W0.heap.size ≤ a.heap.size) (u : Value) : DF W0 b a (c.setCell p u) :=
  ⟨h.cur.kept (S := (· = p.block)) (Kept.set (S := (· = p.block)) (Kept.refl _ _) rfl u) (fun e => by omega) (h.cur.below.setCell (by omega) u),
   fun k h1 h2 => (Below.heap_setCell _ _ _ _ (by omega)).trans (h.kept k h1 h2), by simpa [World.setCell] using h.size⟩
/-- Four cells of a box stored anew. -/
def put4 (w : World) (q : Nat) (x y z u : Value) : World := (((w.setCell ⟨q, 0, none⟩ x).setCell ⟨q, 1, none⟩ y).setCell ⟨q, 2, none⟩ z).setCell ⟨q, 3, none⟩ u
theorem put4_cells {w : World} {q : Nat} {r : List Value} {x y z u : Value} (h : RowAt w q 0 r) (hr : r.length = 4) : RowAt (put4 w q x y z u) q 0 [x, y, z, u] := by
  have h1 := (((h.putAt (j := 0) (by omega) x).putAt (j := 1) (by simp; omega) y).putAt (j := 2) (by simp; omega) z).putAt (j := 3) (by simp; omega) u
  match r, hr with
  | [_, _, _, _], _ => exact h1
theorem put4_kept (w : World) (q : Nat) (x y z u : Value) : Kept (· = q) w (put4 w q x y z u) :=
  Kept.set (S := (· = q)) (p := ⟨q, 3, none⟩) (Kept.set (S := (· = q)) (p := ⟨q, 2, none⟩) (Kept.set (S := (· = q)) (p := ⟨q, 1, none⟩) (Kept.set (S := (· = q)) (p := ⟨q, 0, none⟩) (Kept.refl _ _) rfl _) rfl _) rfl _) rfl _
theorem DF.put4 {W0 a c : World} {b q : Nat} (h : DF W0 b a c) (hq : a.heap.size ≤ q) (hb : b < a.heap.size) (hW : W0.heap.size ≤ a.heap.size) (x y z u : Value) : DF W0 b a (put4 c q x y z u) :=
  (((h.put (p := ⟨q, 0, none⟩) hq hb hW x).put (p := ⟨q, 1, none⟩) hq hb hW y).put (p := ⟨q, 2, none⟩) hq hb hW z).put (p := ⟨q, 3, none⟩) hq hb hW u
/-- A box that was made at some point of a region's order, behind a draw. -/
theorem box_at {W0 W w3 w5 : World} {T : TypeId} {cs : Array Value} {b : Nat} (D : DF W0 b W w5) (h : W.heap = (w3.alloc (.cells cs T)).heap) (hb : b < w3.heap.size) : RowAt w5 w3.heap.size 0 cs.toList ∧ Wr w5 w3.heap.size 0 cs.size := by
  have h1 : RowAt W w3.heap.size 0 cs.toList := fun j c hc => by
    have := RowAt.box w3 cs T j c hc
    unfold World.cell? at this ⊢
    rw [h]; exact this
  have h2 : Wr W w3.heap.size 0 cs.size := fun j hj => by
    obtain ⟨c, h3, h4⟩ := Wr.box w3 cs T j hj
    refine ⟨c, ?_, ?_⟩
    · unfold World.cell? at h3 ⊢; rw [h]; exact h3
    · unfold World.frozen? at h4 ⊢; rw [h]; exact h4
  exact ⟨h1.kept D.kept (by omega), h2.kept D.kept (by omega)⟩
end Go.Proofs.Ytpblhonnknmjjaa

/- The reference's l21Str. -/
namespace Go.Proofs.Ytpblhonnknmjjaa
open Go.RowKit
set_option linter.unusedVariables false
set_option linter.unusedSimpArgs false
attribute [local go_sem] Ext.cell

/-- What a part of the reader hands back: a tree, and the reader behind it; bad where the plain reader reads nothing. -/
def RdPost (b : Nat) (s : ByteArray) (m : Option (PxT × List UInt8)) (F : Nat) (w : World) (e : Ending) (w' : World) : Prop :=
  ∃ (t : PxT) (a : Option Addr) (c p : Nat) (bad : Bool), e = .returned (.agg #[.int .i64 t.kind, .int .i64 t.n, .string t.s, .slice a t.kids.length c]) ∧ PV F (fun g => w.heap.size ≤ g) w' [.int .i64 t.kind, .int .i64 t.n, .string t.s, .slice a t.kids.length c] t ∧ RdS w' b s p bad ∧ RdF b w w' ∧ p ≤ s.size + 1 ∧ ((bad = false ∧ p ≤ s.size ∧ m = some (t, fromB s p)) ∨ (bad = true ∧ m = none))
theorem RdPost.fin {b p F : Nat} {s : ByteArray} {m : Option (PxT × List UInt8)} {w W : World} {t : PxT} {a : Option Addr} {c : Nat} {bad : Bool} (hb : b < w.heap.size) (R : RdS W b s p bad) (D : RdF b w W) (hp : p ≤ s.size + 1)
    (h : PV F (fun g => w.heap.size < g) W [.int .i64 t.kind, .int .i64 t.n, .string t.s, .slice a t.kids.length c] t) (hm : (bad = false ∧ p ≤ s.size ∧ m = some (t, fromB s p)) ∨ (bad = true ∧ m = none)) :
    RdPost b s m F w (.returned (.agg #[.int .i64 t.kind, .int .i64 t.n, .string t.s, .slice a t.kids.length c])) (put4 W w.heap.size (.int .i64 t.kind) (.int .i64 t.n) (.string t.s) (.slice a t.kids.length c)) :=
  ⟨t, a, c, p, bad, rfl, (h.kept (put4_kept W w.heap.size _ _ _ _) (fun g hg e => by omega)).to (fun _ _ _ => rfl) (fun g hg _ => by omega), R.kept (put4_kept W w.heap.size _ _ _ _) (by omega),
    ⟨fun k h1 h2 => (put4_kept W w.heap.size _ _ _ _ k (Nat.lt_of_lt_of_le h1 D.size) (by omega)).trans (D.kept k h1 h2), D.below.trans ((((Below.refl b W).setCell (p := ⟨w.heap.size, 0, none⟩) (by show b ≤ w.heap.size; omega) _).setCell (p := ⟨w.heap.size, 1, none⟩) (by show b ≤ w.heap.size; omega) _ |>.setCell (p := ⟨w.heap.size, 2, none⟩) (by show b ≤ w.heap.size; omega) _).setCell (p := ⟨w.heap.size, 3, none⟩) (by show b ≤ w.heap.size; omega) _)⟩, hp, hm⟩
/-- What l21Str reads: l stands behind the first quote. -/
noncomputable def strR (l : List UInt8) : Option (PxT × List UInt8) := match scanQ l with
  | none => none
  | some (p, r) => match unquote (34 :: p) with
    | none => none
    | some s => some (tStr s, r)
theorem scanQ_34 (l : List UInt8) : scanQ (34 :: l) = some ([34], l) := by conv => lhs; unfold scanQ
                                                                           rw [if_pos rfl]
theorem scanQ_other {x : UInt8} {l : List UInt8} (h1 : x ≠ 34) (h2 : x ≠ 92) : scanQ (x :: l) = (scanQ l).map fun p => (x :: p.1, p.2) := by
  conv => lhs; unfold scanQ
  rw [if_neg h1, if_neg h2]
theorem scanQ_esc (x : UInt8) (l : List UInt8) : scanQ (92 :: x :: l) = (scanQ l).map fun p => (92 :: x :: p.1, p.2) := by
  conv => lhs; unfold scanQ
  rw [if_neg (by decide), if_pos rfl]
theorem scanQ_last : scanQ [92] = none := by
  unfold scanQ
  rw [if_neg (by decide), if_pos rfl]
theorem take_from {s : ByteArray} {k p : Nat} (h : k ≤ p) (hp : p < s.size) : (fromB s k).take (p + 1 - k) = (fromB s k).take (p - k) ++ [s[p]] := by
  rw [show p + 1 - k = (p - k) + 1 by omega, List.take_add_one]
  congr 1
  unfold fromB
  rw [List.getElem?_drop, show k + (p - k) = p by omega, List.getElem?_eq_getElem (by exact hp), byte_at hp]
  rfl
/-- Where a scan stands: what is behind gives what the whole gives. -/
def ScAt (s : ByteArray) (k p : Nat) : Prop := scanQ (fromB s k) = (scanQ (fromB s p)).map fun x => ((fromB s k).take (p - k) ++ x.1, x.2)
theorem scAt_start (s : ByteArray) (k : Nat) : ScAt s k k := by
  unfold ScAt
  rw [Nat.sub_self]
  cases scanQ (fromB s k) <;> rfl
theorem scAt_one {s : ByteArray} {k p : Nat} (h : ScAt s k p) (hk : k ≤ p) (hp : p < s.size) (h1 : s[p] ≠ 34) (h2 : s[p] ≠ 92) : ScAt s k (p + 1) := by
  unfold ScAt at h ⊢
  rw [h, fromB_cons hp, scanQ_other h1 h2, take_from hk hp]
  cases scanQ (fromB s (p + 1)) <;> simp
theorem scAt_two {s : ByteArray} {k p : Nat} (h : ScAt s k p) (hk : k ≤ p) (hp : p + 1 < s.size) (h2 : s[p] = 92) : ScAt s k (p + 2) := by
  unfold ScAt at h ⊢
  rw [h, fromB_cons (show p < s.size by omega), fromB_cons hp, h2, scanQ_esc, take_from (by omega : k ≤ p + 1) hp, take_from hk (by omega), h2]
  cases scanQ (fromB s (p + 1 + 1)) <;> simp
theorem scAt_last {s : ByteArray} {k p : Nat} (h : ScAt s k p) (hp : p < s.size) (hl : s.size ≤ p + 1) (h2 : s[p] = 92) : ScAt s k (p + 2) := by
  unfold ScAt at h ⊢
  rw [h, fromB_cons hp, fromB_nil hl, h2, scanQ_last, fromB_nil (by omega : s.size ≤ p + 2)]
  rfl
theorem scAt_end {s : ByteArray} {k p : Nat} (h : ScAt s k p) (hp : s.size ≤ p) : strR (fromB s k) = none := by
  unfold ScAt at h
  unfold strR
  rw [h, fromB_nil hp]
  rfl
theorem scAt_done {s : ByteArray} {k p : Nat} (h : ScAt s (k + 1) p) (hk : k + 1 ≤ p) (hp : p < s.size) (h34 : s[p] = 34) (hq : s[k]'(by omega) = 34) :
    strR (fromB s (k + 1)) = match unquote (s.extract k (p + 1)).data.toList with
      | none => none
      | some t => some (tStr t, fromB s (p + 1)) := by
  have e : (s.extract k (p + 1)).data.toList = 34 :: ((fromB s (k + 1)).take (p - (k + 1)) ++ [34]) := by
    rw [ByteArray.data_extract, Array.toList_extract]
    show ((fromB s k).take (p + 1 - k)) = _
    rw [take_from (by omega) hp, h34, fromB_cons (show k < s.size by omega), hq, show p - k = (p - (k + 1)) + 1 by omega, List.take_succ_cons]
    rfl
  unfold ScAt at h
  unfold strR
  rw [h, fromB_cons hp, h34, scanQ_34, e]
  rfl
theorem pv_leaf {S : Nat → Prop} {w : World} {k n : Int} {s : ByteArray} (hwf : (PxT.mk k n s []).wf) : PV 1 S w [.int .i64 k, .int .i64 n, .string s, .slice none 0 0] (.mk k n s []) :=
  ⟨none, 0, rfl, hwf, Nat.le_refl _, by omega, fun h => absurd h (by show ¬ 0 < ([] : List PxT).length; simp)⟩
theorem wf0 {k : Int} {s : ByteArray} {ks : List PxT} (hk : 0 ≤ k ∧ k ≤ 7) (hs : s.size ≤ 9223372036854775807) : (PxT.mk k 0 s ks).wf := ⟨⟨by show _ ≤ k; omega, by show k ≤ _; omega⟩, ⟨by show _ ≤ (0 : Int); omega, by show (0 : Int) ≤ _; omega⟩, hs⟩

set_option maxRecDepth 100000 in
set_option maxHeartbeats 8000000 in
theorem l21Str_c (s : ByteArray) (k b : Nat) (hs : s.size ≤ 1048576) (hk : k < s.size) (hq : s[k] = 34) (w : World) (R : RdS w b s k false) :
    Calls Try.prog 62 #[.pointer (some ⟨b, 0, none⟩)] w (RdPost b s (strR (fromB s (k + 1))) 1 w) := by
  have hbl := R.lt
  go_enter Try.func62, Try.ntmps62
  go_upto_region 1 with fail
  have E : RowAt (w.alloc (.cells #[.int .i64 0, .int .i64 0, .string ⟨#[]⟩, .slice none 0 0] 63)) (w.heap.size) 0 [.int .i64 0, .int .i64 0, .string ⟨#[]⟩, .slice none 0 0] := RowAt.box w #[.int .i64 0, .int .i64 0, .string ⟨#[]⟩, .slice none 0 0] 63
  have EW : Wr (w.alloc (.cells #[.int .i64 0, .int .i64 0, .string ⟨#[]⟩, .slice none 0 0] 63)) (w.heap.size) 0 4 := Wr.box w #[.int .i64 0, .int .i64 0, .string ⟨#[]⟩, .slice none 0 0] 63
  have hw : Below w.heap.size w (w.alloc (.cells #[.int .i64 0, .int .i64 0, .string ⟨#[]⟩, .slice none 0 0] 63)) := by go_grown
  generalize (w.alloc (.cells #[.int .i64 0, .int .i64 0, .string ⟨#[]⟩, .slice none 0 0] 63)) = w0 at *
  have hsE := World.block_lt_of_cell? _ _ E.box4.1; dsimp only at hsE
  have R0 := R.below hw
  have F0 : RdF b w w0 := RdF.of hw (by omega)
  obtain ⟨r_0, r_1, r_2⟩ := R0.row.box3
  have f_1 := R0.wr.frz 1 (by omega)
  have hbl0 := R0.lt
  have ek : ∀ W, RdF b w0 W → RowAt W w.heap.size 0 [.int .i64 0, .int .i64 0, .string ⟨#[]⟩, .slice none 0 0] ∧ Wr W w.heap.size 0 4 := fun W D => ⟨E.kept D.kept (by omega), EW.kept D.kept (by omega)⟩
  replace ek := Lib.hid ek
  go_upto_region 3 with fail
  have R1 := R0.setAt (k := k + 1)
  rw [show ((k + 1 : Nat) : Int) = (k : Int) + 1 by omega] at R1
  have F1 : RdF b w0 (w0.setCell ⟨b, 1, none⟩ (.int .i64 ((k : Int) + 1))) := (RdF.refl b w0).set 1 _
  have hst := scAt_start s (k + 1)
  clear E EW R0 r_0 r_1 r_2 f_1 R
  go_loopw [38] (fun z wr => ∃ p : Nat, k + 1 ≤ p ∧ p ≤ s.size + 1 ∧ Hid (ScAt s (k + 1) p) ∧ RdS wr b s p false ∧ RdF b w0 wr) (fun _ wr => s.size + 2 - placeOf b wr)
  case atStart => exact ⟨k + 1, by omega, by omega, hst, R1, F1⟩
  case round =>
    clear R1 F1 hst
    obtain ⟨p, hp0, hp1, hsc, R, F⟩ := hrel
    obtain ⟨r_0, r_1, r_2⟩ := R.row.box3
    have hbl := R.lt
    have hpl := R.place
    have d0 : decide ((p : Int) < (s.size : Int)) = decide (p < s.size) := by simp
    by_cases hlt : p < s.size
    · have d1 : decide ((p : Int) < (s.size : Int)) = true := decide_eq_true (by omega)
      clear d0
      have ne : ∀ (x c : UInt8), (x.toNat : Int) ≠ (c.toNat : Int) → x ≠ c := fun x c h e => h (by rw [e])
      have eq : ∀ (x c : UInt8), (x.toNat : Int) = (c.toNat : Int) → x = c := fun x c h => UInt8.toNat_inj.1 (by omega)
      by_cases h34 : (s[p].toNat : Int) = 34
      · have e1 : ((s[p].toNat : Int) != 34) = false := by rw [h34]; rfl
        have hm := scAt_done hsc.out hp0 hlt (eq _ _ h34) hq
        have cu := fun W => spec_Unquote_c (s.extract k (p + 1)) (by rw [ByteArray.size_extract]; omega) W
        have hex : (s.extract k (p + 1)).size ≤ 1048576 := by rw [ByteArray.size_extract]; omega
        have hul : ∀ t, unquote (s.extract k (p + 1)).data.toList = some t → t.size ≤ 1048576 := fun t ht => by
          have h1 := unquote_some.1 ht
          have h2 := congrArg List.length h1
          rw [quoteS_list] at h2
          simp only [List.length_cons, List.length_append, List.length_nil] at h2
          have h6 : (s.extract k (p + 1)).data.toList.length = (s.extract k (p + 1)).size := rfl
          have h3 : ∀ l : List UInt8, l.length ≤ (l.flatMap quoteB).length := by
            intro l
            induction l with
            | nil => simp
            | cons x l ih => have := (quoteB_len x).2; simp at *; omega
          have h4 := h3 t.data.toList
          have h5 : t.data.toList.length = t.size := rfl
          omega
        generalize hu : unquote (s.extract k (p + 1)).data.toList = u at *
        replace cu := Lib.hid cu; replace hm := Lib.hid hm; replace hu := Lib.hid hu; replace hpl := Lib.hid hpl; replace hul := Lib.hid hul
        have q1 : (0 : Int) ≤ (p : Int) + 1 := by omega
        have q2 : (k : Int) ≤ (p : Int) + 1 := by omega
        have q3 : (p : Int) + 1 ≤ (s.size : Int) := by omega
        have q4 : ((p : Int) + 1).toNat = p + 1 := by omega
        have d2 : decide ((s.size : Int) ≤ (p : Int)) = false := decide_eq_false (by omega)
        clear h34
        go_upto_region 3 with fail
        (refine wp_region_ext_lit (by kernel_rfl) (by kernel_rfl) ?_; (repeat (any_goals (first | go_big_quiet_step (fail) | quiet_step (fail) | (refine wpQuiet_step (fun K hK => ?_); go_simp; split <;> (refine hK _ ?_; clear hK K))))); all_goals (refine wpQuiet_nil ?_; rintro w1 ⟨⟨_, hb1⟩, rfl⟩))
        have R1 := R.below hb1
        obtain ⟨m_0, m_1, m_2⟩ := R1.row.box3
        have hbl1 := R1.lt
        go_upto_region 7 with fail
        (refine wp_region_ext_lit (by kernel_rfl) (by kernel_rfl) ?_; (repeat (any_goals (first | go_big_quiet_step (fail) | quiet_step (fail) | (refine wpQuiet_step (fun K hK => ?_); go_simp; split <;> (refine hK _ ?_; clear hK K))))); all_goals (refine wpQuiet_nil ?_; rintro w2 ⟨⟨_, hb2⟩, rfl⟩))
        have R2 := R1.below hb2
        obtain ⟨n_0, n_1, n_2⟩ := R2.row.box3
        have f_1 := R2.wr.frz 1 (by omega)
        have hbl2 := R2.lt
        have F2 := (F.trans (RdF.of hb1 (by omega))).trans (RdF.of hb2 (by omega))
        go_upto_region 11 with fail
        obtain ⟨wS, hwS⟩ : ∃ W, W = w2.setCell ⟨b, 1, none⟩ (.int .i64 ((p : Int) + 1)) := ⟨_, rfl⟩
        rw [← hwS]
        have R3 : RdS wS b s (p + 1) false := by have h := R2.setAt (k := p + 1); rw [show ((p + 1 : Nat) : Int) = (p : Int) + 1 by omega, ← hwS] at h; exact h
        have F3 : RdF b w0 wS := by rw [hwS]; exact F2.set 1 _
        clear hwS m_0 m_1 m_2 n_0 n_1 n_2 f_1 r_0 r_1 r_2
        obtain ⟨s_0, s_1, s_2⟩ := R3.row.box3
        rw [show ((p + 1 : Nat) : Int) = (p : Int) + 1 by omega] at s_1
        have hbl3 := R3.lt
        cases u with
        | some tt =>
          have hts := hul.out tt rfl
          replace cu : Hid (∀ W, Calls Try.prog 84 #[.string (s.extract k (p + 1))] W fun e w' => e = .returned (.tuple #[.string tt, .bool true]) ∧ Below W.heap.size W w') := cu
          (refine wp_region_ext_lit (by kernel_rfl) (by kernel_rfl) ?_; (repeat (any_goals (first | go_big_quiet_step ((go_at_call 84; with_reducible exact Calls.ext (cu.out _))) | quiet_step ((go_at_call 84; with_reducible exact Calls.ext (cu.out _))) | (refine wpQuiet_step (fun K hK => ?_); go_simp; split <;> (refine hK _ ?_; clear hK K))))); all_goals (refine wpQuiet_nil ?_; rintro w3 ⟨⟨_, hb3⟩, rfl⟩))
          have R4 := R3.below hb3
          have F4 := F3.trans (RdF.of hb3 (by omega))
          obtain ⟨E4, EW4⟩ := ek.out _ F4
          obtain ⟨e_0, e_1', e_2, e_3⟩ := E4.box4
          have ef_0 := EW4.frz 0 (by omega); have ef_1 := EW4.frz 1 (by omega); have ef_2 := EW4.frz 2 (by omega); have ef_3 := EW4.frz 3 (by omega)
          have hsE4 := World.block_lt_of_cell? _ _ e_0; dsimp only at hsE4
          obtain ⟨t_0, t_1, t_2⟩ := R4.row.box3
          have f_2 := R4.wr.frz 2 (by omega)
          have hbl4 := R4.lt
          have hbE : ¬ b = w.heap.size := by omega
          have hEb : ¬ w.heap.size = b := by omega
          go_wp2_with fail
          obtain ⟨p_0, p_1, p_2, p_3⟩ := (put4_cells (x := .int .i64 2) (y := .int .i64 0) (z := .string tt) (u := .slice none 0 0) (E4) rfl).box4
          unfold put4 at p_0 p_1 p_2 p_3
          refine bodyPost_ret (v := .agg #[.int .i64 2, .int .i64 0, .string tt, .slice none 0 0]) (by simp [results, Try.results62, go_sem, p_0, p_1, p_2, p_3]) rfl ?_
          have hwf : (PxT.mk 2 0 tt []).wf := wf0 (k := 2) (by omega) (by omega)
          exact RdPost.fin (t := PxT.mk 2 0 tt []) (a := none) (c := 0) (by omega) R4 (F0.trans F4) (by omega) (pv_leaf hwf) (.inl ⟨rfl, by omega, hm.out⟩)
        | none =>
          replace cu : Hid (∀ W, Calls Try.prog 84 #[.string (s.extract k (p + 1))] W fun e w' => e = .returned (.tuple #[.string ⟨#[]⟩, .bool false]) ∧ Below W.heap.size W w') := cu
          (refine wp_region_ext_lit (by kernel_rfl) (by kernel_rfl) ?_; (repeat (any_goals (first | go_big_quiet_step ((go_at_call 84; with_reducible exact Calls.ext (cu.out _))) | quiet_step ((go_at_call 84; with_reducible exact Calls.ext (cu.out _))) | (refine wpQuiet_step (fun K hK => ?_); go_simp; split <;> (refine hK _ ?_; clear hK K))))); all_goals (refine wpQuiet_nil ?_; rintro w3 ⟨⟨_, hb3⟩, rfl⟩))
          have R4 := R3.below hb3
          have F4 := F3.trans (RdF.of hb3 (by omega))
          obtain ⟨E4, EW4⟩ := ek.out _ F4
          obtain ⟨e_0, e_1', e_2, e_3⟩ := E4.box4
          have ef_0 := EW4.frz 0 (by omega); have ef_1 := EW4.frz 1 (by omega); have ef_2 := EW4.frz 2 (by omega); have ef_3 := EW4.frz 3 (by omega)
          have hsE4 := World.block_lt_of_cell? _ _ e_0; dsimp only at hsE4
          obtain ⟨t_0, t_1, t_2⟩ := R4.row.box3
          have f_2 := R4.wr.frz 2 (by omega)
          have hbl4 := R4.lt
          have hbE : ¬ b = w.heap.size := by omega
          have hEb : ¬ w.heap.size = b := by omega
          go_wp2_with fail
          obtain ⟨p_0, p_1, p_2, p_3⟩ := (put4_cells (x := .int .i64 2) (y := .int .i64 0) (z := .string ⟨#[]⟩) (u := .slice none 0 0) (E4.set_other (g := b) (o := 2) hEb (.bool true)) rfl).box4
          unfold put4 at p_0 p_1 p_2 p_3
          refine bodyPost_ret (v := .agg #[.int .i64 2, .int .i64 0, .string ⟨#[]⟩, .slice none 0 0]) (by simp [results, Try.results62, go_sem, p_0, p_1, p_2, p_3]) rfl ?_
          have hwf : (PxT.mk 2 0 ⟨#[]⟩ []).wf := wf0 (k := 2) (by omega) (by decide)
          exact RdPost.fin (t := PxT.mk 2 0 ⟨#[]⟩ []) (a := none) (c := 0) (by omega) (R4.setBad true) (F0.trans (F4.set 2 _)) (by omega) (pv_leaf hwf) (.inr ⟨rfl, hm.out⟩)
      · have e1 : ((s[p].toNat : Int) != 34) = true := by rw [bne_iff_ne]; exact h34
        replace hpl := Lib.hid hpl
        by_cases h92 : (s[p].toNat : Int) = 92
        · have e2 : ((s[p].toNat : Int) == 92) = true := by rw [h92]; rfl
          have hsc2 : Hid (ScAt s (k + 1) (p + 2)) := by
            by_cases hl : p + 1 < s.size
            · exact scAt_two hsc.out hp0 hl (eq _ _ h92)
            · exact scAt_last hsc.out hlt (by omega) (eq _ _ h92)
          clear h34 h92
          go_upto_region 3 with fail
          (refine wp_region_ext_lit (by kernel_rfl) (by kernel_rfl) ?_; (repeat (any_goals (first | go_big_quiet_step (fail) | quiet_step (fail) | (refine wpQuiet_step (fun K hK => ?_); go_simp; split <;> (refine hK _ ?_; clear hK K))))); all_goals (refine wpQuiet_nil ?_; rintro w1 ⟨⟨_, hb1⟩, rfl⟩))
          have R1 := R.below hb1
          obtain ⟨m_0, m_1, m_2⟩ := R1.row.box3
          have hbl1 := R1.lt
          go_upto_region 4 with fail
          (refine wp_region_ext_lit (by kernel_rfl) (by kernel_rfl) ?_; (repeat (any_goals (first | go_big_quiet_step (fail) | quiet_step (fail) | (refine wpQuiet_step (fun K hK => ?_); go_simp; split <;> (refine hK _ ?_; clear hK K))))); all_goals (refine wpQuiet_nil ?_; rintro w2 ⟨⟨_, hb2⟩, rfl⟩))
          have R2 := R1.below hb2
          obtain ⟨n_0, n_1, n_2⟩ := R2.row.box3
          have f_1 := R2.wr.frz 1 (by omega)
          have hbl2 := R2.lt
          have hz1 := hb1.size
          go_wp2_with fail
          have R3 := (R2.setAt (k := p + 1)).setAt (k := p + 2)
          rw [show ((p + 1 : Nat) : Int) = (p : Int) + 1 by omega, show ((p + 2 : Nat) : Int) = (p : Int) + 1 + 1 by omega] at R3
          have hpl3 := R3.place
          go_roundw
          case rel => exact ⟨p + 2, by omega, by omega, hsc2, R3, (((F.trans (RdF.of hb1 (by omega))).trans (RdF.of hb2 (by omega))).set 1 _).set 1 _⟩
          case measure => rw [hpl3, hpl.out]; omega
        · have e2 : ((s[p].toNat : Int) == 92) = false := by rw [beq_eq_false_iff_ne]; exact h92
          have hsc2 : Hid (ScAt s (k + 1) (p + 1)) := scAt_one hsc.out hp0 hlt (ne _ _ h34) (ne _ _ h92)
          clear h34 h92
          go_upto_region 3 with fail
          (refine wp_region_ext_lit (by kernel_rfl) (by kernel_rfl) ?_; (repeat (any_goals (first | go_big_quiet_step (fail) | quiet_step (fail) | (refine wpQuiet_step (fun K hK => ?_); go_simp; split <;> (refine hK _ ?_; clear hK K))))); all_goals (refine wpQuiet_nil ?_; rintro w1 ⟨⟨_, hb1⟩, rfl⟩))
          have R1 := R.below hb1
          obtain ⟨m_0, m_1, m_2⟩ := R1.row.box3
          have hbl1 := R1.lt
          go_upto_region 4 with fail
          (refine wp_region_ext_lit (by kernel_rfl) (by kernel_rfl) ?_; (repeat (any_goals (first | go_big_quiet_step (fail) | quiet_step (fail) | (refine wpQuiet_step (fun K hK => ?_); go_simp; split <;> (refine hK _ ?_; clear hK K))))); all_goals (refine wpQuiet_nil ?_; rintro w2 ⟨⟨_, hb2⟩, rfl⟩))
          have R2 := R1.below hb2
          obtain ⟨n_0, n_1, n_2⟩ := R2.row.box3
          have f_1 := R2.wr.frz 1 (by omega)
          have hbl2 := R2.lt
          have hz1 := hb1.size
          go_wp2_with fail
          have R3 := R2.setAt (k := p + 1)
          rw [show ((p + 1 : Nat) : Int) = (p : Int) + 1 by omega] at R3
          have hpl3 := R3.place
          go_roundw
          case rel => exact ⟨p + 1, by omega, by omega, hsc2, R3, ((F.trans (RdF.of hb1 (by omega))).trans (RdF.of hb2 (by omega))).set 1 _⟩
          case measure => rw [hpl3, hpl.out]; omega
    · have d1 : decide ((p : Int) < (s.size : Int)) = false := decide_eq_false (by omega)
      have d2 : decide ((s.size : Int) ≤ (p : Int)) = true := decide_eq_true (by omega)
      have hm := Lib.hid (scAt_end hsc.out (by omega : s.size ≤ p))
      clear d0
      replace hpl := Lib.hid hpl
      go_upto_region 3 with fail
      (refine wp_region_ext_lit (by kernel_rfl) (by kernel_rfl) ?_; (repeat (any_goals (first | go_big_quiet_step (fail) | quiet_step (fail) | (refine wpQuiet_step (fun K hK => ?_); go_simp; split <;> (refine hK _ ?_; clear hK K))))); all_goals (refine wpQuiet_nil ?_; rintro w1 ⟨⟨_, hb1⟩, rfl⟩))
      have R1 := R.below hb1
      obtain ⟨m_0, m_1, m_2⟩ := R1.row.box3
      have hbl1 := R1.lt
      go_upto_region 7 with fail
      (refine wp_region_ext_lit (by kernel_rfl) (by kernel_rfl) ?_; (repeat (any_goals (first | go_big_quiet_step (fail) | quiet_step (fail) | (refine wpQuiet_step (fun K hK => ?_); go_simp; split <;> (refine hK _ ?_; clear hK K))))); all_goals (refine wpQuiet_nil ?_; rintro w2 ⟨⟨_, hb2⟩, rfl⟩))
      have R4 := R1.below hb2
      have F4 := (F.trans (RdF.of hb1 (by omega))).trans (RdF.of hb2 (by omega))
      obtain ⟨E4, EW4⟩ := ek.out _ F4
      obtain ⟨e_0, e_1', e_2, e_3⟩ := E4.box4
      have ef_0 := EW4.frz 0 (by omega); have ef_1 := EW4.frz 1 (by omega); have ef_2 := EW4.frz 2 (by omega); have ef_3 := EW4.frz 3 (by omega)
      have hsE4 := World.block_lt_of_cell? _ _ e_0; dsimp only at hsE4
      obtain ⟨t_0, t_1, t_2⟩ := R4.row.box3
      have f_2 := R4.wr.frz 2 (by omega)
      have hbl4 := R4.lt
      have hbE : ¬ b = w.heap.size := by omega
      have hEb : ¬ w.heap.size = b := by omega
      go_wp2_with fail
      obtain ⟨p_0, p_1, p_2, p_3⟩ := (put4_cells (x := .int .i64 0) (y := .int .i64 0) (z := .string ⟨#[]⟩) (u := .slice none 0 0) (E4.set_other (g := b) (o := 2) hEb (.bool true)) rfl).box4
      unfold put4 at p_0 p_1 p_2 p_3
      refine bodyPost_ret (v := .agg #[.int .i64 0, .int .i64 0, .string ⟨#[]⟩, .slice none 0 0]) (by simp [results, Try.results62, go_sem, p_0, p_1, p_2, p_3]) rfl ?_
      have hwf : (PxT.mk 0 0 ⟨#[]⟩ []).wf := wf0 (k := 0) (by omega) (by decide)
      exact RdPost.fin (t := PxT.mk 0 0 ⟨#[]⟩ []) (a := none) (c := 0) (by omega) (R4.setBad true) (F0.trans (F4.set 2 _)) (by omega) (pv_leaf hwf) (.inr ⟨rfl, hm.out⟩)
end Go.Proofs.Ytpblhonnknmjjaa

/- The reference's l21Pair and l21Read. -/
namespace Go.Proofs.Ytpblhonnknmjjaa
open Go.RowKit
set_option linter.unusedVariables false
set_option linter.unusedSimpArgs false
attribute [local go_sem] Ext.cell

def argB (l : List UInt8) : Bool := isAt [32] (wRest l) && !isAt kColons (wRest l)
theorem readIn_unit {rd : Rd} {s : ByteArray} {k : Nat} (h : isAt [41] (fromB s k) = true) : readIn rd (fromB s k) = some (tUnit, fromB s (k + 1)) := by
  unfold readIn
  rw [if_pos h, fromB_drop]
def readArg (rd : Rd) : Rd := fun l => match rd ((wRest l).drop 1) with
    | none => none
    | some (k, r) => if isAt [41] r then some (tCon1 ⟨(wOf l).toArray⟩ k, r.drop 1) else none
def readTwo (rd : Rd) : Rd := fun l => match rd l with
    | none => none
    | some (a, r) =>
      if isAt kColons r then match rd (r.drop 4) with
        | none => none
        | some (b, r2) => if isAt [41] r2 then some (tCons a b, r2.drop 1) else none
      else if isAt kComma r then match rd (r.drop 2) with
        | none => none
        | some (b, r2) => if isAt [41] r2 then some (tPair a b, r2.drop 1) else none
      else none
theorem readIn_arg {rd : Rd} {l : List UInt8} (h : isAt [41] l = false) (hu : upHead l = true) (ha : argB l = true) : readIn rd l = readArg rd l := by
  unfold argB at ha
  unfold readIn
  rw [if_neg (by rw [h]; decide), if_pos (by rw [hu, ha]; rfl)]
  rfl
theorem readIn_two {rd : Rd} {l : List UInt8} (h : isAt [41] l = false) (hu : upHead l = false ∨ argB l = false) : readIn rd l = readTwo rd l := by
  unfold argB at hu
  unfold readIn
  rw [if_neg (by rw [h]; decide), if_neg (by rcases hu with hu | hu <;> rw [hu] <;> simp)]
  rfl
theorem at_le {s t : ByteArray} {k : Nat} (h0 : 0 < t.size) (h : isAt t.data.toList (fromB s k) = true) : k + t.size ≤ s.size := by
  rcases Nat.lt_or_ge s.size (k + t.size) with h1 | h1
  · rw [isAt_far h0 h1] at h; cases h
  · exact h1
/-- What the reader ends with: the place, bad or not, and what the plain reader gives. -/
def Ends (s : ByteArray) (m : Option (PxT × List UInt8)) (t : PxT) (p : Nat) (bad : Bool) : Prop := (bad = false ∧ p ≤ s.size ∧ m = some (t, fromB s p)) ∨ (bad = true ∧ m = none)
def q41 (s : ByteArray) (p : Nat) : Bool := isAt [41] (fromB s p)
theorem q41_le {s : ByteArray} {p : Nat} (h : q41 s p = true) : p + 1 ≤ s.size := at_le (t := ⟨#[41]⟩) (by decide) h
theorem ends_arg {rd : Rd} {s : ByteArray} {k p : Nat} {t : PxT} {bad : Bool} (h : Ends s (rd (fromB s (k + (wOf (fromB s k)).length + 1))) t p bad) :
    Ends s (readArg rd (fromB s k)) (tCon1 ⟨(wOf (fromB s k)).toArray⟩ t) (if q41 s p then p + 1 else p) (if q41 s p then bad else true) := by
  unfold readArg
  rw [wRest_at, fromB_drop]
  rcases h with ⟨rfl, h1, h2⟩ | ⟨rfl, h2⟩
  · rw [h2]
    cases hq : q41 s p with
    | true =>
      refine .inl ⟨rfl, q41_le hq, ?_⟩
      dsimp only
      unfold q41 at hq
      rw [if_pos hq, fromB_drop]; rfl
    | false =>
      refine .inr ⟨rfl, ?_⟩
      dsimp only
      unfold q41 at hq
      rw [if_neg (by rw [hq]; decide)]
  · rw [h2]
    exact .inr ⟨by split <;> rfl, rfl⟩
theorem ends_cons {rd : Rd} {s : ByteArray} {k pA p : Nat} {ta tb : PxT} {badA bad : Bool} (hA : Ends s (rd (fromB s k)) ta pA badA) (hq : isAt kColons (fromB s pA) = true)
    (hB : Ends s (if badA then none else rd (fromB s (pA + 4))) tb p bad) : Ends s (readTwo rd (fromB s k)) (tCons ta tb) (if q41 s p then p + 1 else p) (if q41 s p then bad else true) := by
  unfold readTwo
  rcases hA with ⟨rfl, h1, h2⟩ | ⟨rfl, h2⟩
  · rw [h2]
    dsimp only
    rw [if_pos hq, fromB_drop]
    rcases hB with ⟨rfl, h3, h4⟩ | ⟨rfl, h4⟩
    · rw [if_neg (by decide)] at h4
      rw [h4]
      cases hq : q41 s p with
      | true =>
        refine .inl ⟨rfl, q41_le hq, ?_⟩
        dsimp only
        unfold q41 at hq
        rw [if_pos hq, fromB_drop]; rfl
      | false =>
        refine .inr ⟨rfl, ?_⟩
        dsimp only
        unfold q41 at hq
        rw [if_neg (by rw [hq]; decide)]
    · rw [if_neg (by decide)] at h4
      rw [h4]
      exact .inr ⟨by split <;> rfl, rfl⟩
  · rw [h2]
    rcases hB with ⟨rfl, h3, h4⟩ | ⟨rfl, h4⟩
    · rw [if_pos rfl] at h4; cases h4
    · exact .inr ⟨by split <;> rfl, rfl⟩
theorem ends_pair {rd : Rd} {s : ByteArray} {k pA p : Nat} {ta tb : PxT} {badA bad : Bool} (hA : Ends s (rd (fromB s k)) ta pA badA) (hq : isAt kColons (fromB s pA) = false)
    (hB : Ends s (if (if isAt kComma (fromB s pA) then badA else true) then none else rd (fromB s (if isAt kComma (fromB s pA) then pA + 2 else pA))) tb p bad) : Ends s (readTwo rd (fromB s k)) (tPair ta tb) (if q41 s p then p + 1 else p) (if q41 s p then bad else true) := by
  unfold readTwo
  cases hc : isAt kComma (fromB s pA) with
  | false =>
    rw [hc] at hB
    rcases hB with ⟨rfl, h3, h4⟩ | ⟨rfl, h4⟩
    · simp at h4
    · refine .inr ⟨by split <;> rfl, ?_⟩
      rcases hA with ⟨rfl, h1, h2⟩ | ⟨rfl, h2⟩
      · rw [h2]
        dsimp only
        rw [if_neg (by rw [hq]; decide), if_neg (by rw [hc]; decide)]
      · rw [h2]
  | true =>
    rw [hc] at hB
    simp only [if_true] at hB
    rcases hA with ⟨rfl, h1, h2⟩ | ⟨rfl, h2⟩
    · rw [h2]
      dsimp only
      rw [if_neg (by rw [hq]; decide), if_pos hc, fromB_drop]
      rcases hB with ⟨rfl, h3, h4⟩ | ⟨rfl, h4⟩
      · rw [if_neg (by decide)] at h4
        rw [h4]
        cases hq : q41 s p with
        | true =>
          refine .inl ⟨rfl, q41_le hq, ?_⟩
          dsimp only
          unfold q41 at hq
          rw [if_pos hq, fromB_drop]; rfl
        | false =>
          refine .inr ⟨rfl, ?_⟩
          dsimp only
          unfold q41 at hq
          rw [if_neg (by rw [hq]; decide)]
      · rw [if_neg (by decide)] at h4
        rw [h4]
        exact .inr ⟨by split <;> rfl, rfl⟩
    · rw [h2]
      rcases hB with ⟨rfl, h3, h4⟩ | ⟨rfl, h4⟩
      · rw [if_pos rfl] at h4; cases h4
      · exact .inr ⟨by split <;> rfl, rfl⟩
end Go.Proofs.Ytpblhonnknmjjaa
