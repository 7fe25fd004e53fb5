/- Parts of the proof, merged: Quote2, Text, Text2, Text3. -/
import Derived.Deep.RegionHeld3
import Derived.Test.YtpblhonnknmjjaaFd05
/- The text of a string in quotes: the reference's Quote. -/
namespace Go.Proofs.Ytpblhonnknmjjaa
open Go.RowKit
set_option linter.unusedVariables false
set_option linter.unusedSimpArgs false
attribute [local go_sem] Ext.cell

set_option maxRecDepth 100000 in
set_option maxHeartbeats 4000000 in
theorem l01Hex_c (z : Int) (h0 : 0 ≤ z) (h1 : z ≤ 15) (w : World) : Calls Try.prog 76 #[.int .i64 z] w fun e w' => e = .returned (.int .u8 (hxI z)) ∧ w = w' := by
  have h : z = 0 ∨ z = 1 ∨ z = 2 ∨ z = 3 ∨ z = 4 ∨ z = 5 ∨ z = 6 ∨ z = 7 ∨ z = 8 ∨ z = 9 ∨ z = 10 ∨ z = 11 ∨ z = 12 ∨ z = 13 ∨ z = 14 ∨ z = 15 := by omega
  rcases h with rfl | rfl | rfl | rfl | rfl | rfl | rfl | rfl | rfl | rfl | rfl | rfl | rfl | rfl | rfl | rfl
  all_goals
    clear h0 h1
    go_enter Try.func76, Try.ntmps76
    go_wp2
    go_returns
    exact ⟨rfl, rfl⟩

set_option maxRecDepth 100000 in
set_option maxHeartbeats 8000000 in
theorem spec_Quote_c (s : ByteArray) (hs : s.size ≤ 1099511627776) (w : World) :
    Calls Try.prog 51 #[.string s] w fun e w' => e = .returned (.string (quoteS s)) ∧ Below w.heap.size w w' := by
  obtain ⟨i0, hi0, hz0, hz1, hz2⟩ := info_parts info_u8
  have I := Lib.hid hi0; have I0 := Lib.hid hz0; have I1 := Lib.hid hz1; have I2 := Lib.hid hz2
  clear hi0 hz0 hz1 hz2
  go_enter Try.func51, Try.ntmps51
  go_wp2_with fail
  go_loopw [3, 4] (fun v i wr => ∃ (k n g cap : Nat), k ≤ s.size ∧ i = .int .i64 k ∧ v = .slice (some ⟨g, 0, none⟩) n cap ∧ Hid (n = (quoteL (s.data.toList.take k)).length) ∧ n ≤ 4 * k + 1 ∧ wr.ownsRow w.heap.size 5 1 v n ((quoteL (s.data.toList.take k)).map bval) ∧ Below w.heap.size w wr) (fun _ i _ => s.size - (intOf i).toNat)
  case atStart => exact ⟨0, 1, w.heap.size, 1, by omega, rfl, rfl, rfl, by omega, own_new w #[.int .u8 34] 5 1 1 rfl (by unfold maxLen; omega) _ (Nat.le_refl _), by go_grown⟩
  case round =>
    obtain ⟨k, n, g, cap, hk, rfl, rfl, hn, hnk, O, hw⟩ := hrel
    have hz := hw.size
    by_cases hlt : k < s.size
    · have hst := quoteL_take s k hlt
      have hq4 := quoteB_len s[k]
      have hb0 : (0 : Int) ≤ (s[k].toNat : Int) := by omega
      have hb1 : (s[k].toNat : Int) ≤ 255 := by have := s[k].toNat_lt; omega
      have hqv : (quoteB s[k]).map bval = (if (s[k].toNat : Int) = 10 then [.int .u8 92, .int .u8 110] else if (s[k].toNat : Int) = 34 ∨ (s[k].toNat : Int) = 92 then [.int .u8 92, .int .u8 (s[k].toNat : Int)] else if 32 ≤ (s[k].toNat : Int) ∧ (s[k].toNat : Int) ≤ 126 then [.int .u8 (s[k].toNat : Int)] else [.int .u8 92, .int .u8 120, .int .u8 (hxI ((s[k].toNat : Int) / 16)), .int .u8 (hxI ((s[k].toNat : Int) % 16))]) := by
        have hlt := s[k].toNat_lt
        have e1 := hxB_val (s[k].toNat / 16) (by omega)
        have e2 := hxB_val (s[k].toNat % 16) (by omega)
        unfold quoteB
        split
        · rfl
        · split
          · rfl
          · split
            · rfl
            · simp only [List.map_cons, List.map_nil, e1, e2]
              simp [bval]
      have hfin : ∀ (news : List Value), (quoteB s[k]).map bval = news → (quoteL (s.data.toList.take (k + 1))).map bval = (quoteL (s.data.toList.take k)).map bval ++ news ∧ (quoteL (s.data.toList.take (k + 1))).length = n + news.length := fun news h => by
        rw [hst, List.map_append, h, List.length_append, hn.out, ← h, List.length_map]
        exact ⟨rfl, rfl⟩
      clear hst hq4
      replace O := Lib.hid O
      by_cases h1 : (s[k].toNat : Int) = 10
      · have hnew := Lib.hid (hfin _ (hqv.trans (if_pos h1)))
        clear hqv hfin
        have d1 : ((s[k].toNat : Int) == 10) = true := by rw [h1]; rfl
        clear h1
        go_wp2_with (at_builtin; refine wpList_append_lies _ rfl _ _ _ rfl w.heap.size 5 i0 _ 1 1 Try.underlying22 I.out I0.out I1.out I2.out rfl (by omega) (.slice (some ⟨g, 0, none⟩) n cap) n ((quoteL (s.data.toList.take k)).map bval) rfl (own_below O.out (by go_grown)) ⟨wr.heap.size, 0, none⟩ 2 2 [.int .u8 92, .int .u8 110] rfl rfl (World.news_of_block (cs := #[.int .u8 92, .int .u8 110]) (t := 5) (fr := (0, 0)) (heap_alloc_new' _ _ _ (by simp))) (by intro u hu; simp at hu; (first | (subst hu; rfl) | (rcases hu with rfl | rfl <;> rfl) | (rcases hu with rfl | rfl | rfl | rfl <;> rfl))) (by omega) (by unfold maxLen; omega) (by omega) (by simp; omega) _ rfl ?_; intro g' cap' w2 hown hgrow hat hlt2)
        have hw2 := below_grown2 (wr := wr) hgrow (by go_grown) hw hz O.out
        go_roundw
        case rel => exact ⟨k + 1, n + 2, g', cap', by omega, by go_num, rfl, hnew.out.2.symm, by omega, by rw [hnew.out.1]; exact hown, hw2⟩
        case measure => simp [intOf]; omega
      · by_cases h2 : (s[k].toNat : Int) = 34 ∨ (s[k].toNat : Int) = 92
        · have hnew := Lib.hid (hfin _ (hqv.trans ((if_neg h1).trans (if_pos h2))))
          clear hqv hfin
          have d1 : ((s[k].toNat : Int) == 10) = false := by simpa using h1
          have d2 : ((s[k].toNat : Int) == 34) = true ∨ (((s[k].toNat : Int) == 34) = false ∧ ((s[k].toNat : Int) == 92) = true) := by rcases h2 with h | h <;> simp [h]
          clear h1 h2
          rcases d2 with d2 | ⟨d2, d3⟩
          all_goals
            go_wp2_with (at_builtin; refine wpList_append_lies _ rfl _ _ _ rfl w.heap.size 5 i0 _ 1 1 Try.underlying22 I.out I0.out I1.out I2.out rfl (by omega) (.slice (some ⟨g, 0, none⟩) n cap) n ((quoteL (s.data.toList.take k)).map bval) rfl (own_below O.out (by go_grown)) ⟨wr.heap.size, 0, none⟩ 2 2 [.int .u8 92, .int .u8 (s[k].toNat : Int)] rfl rfl (World.news_of_block (cs := #[.int .u8 92, .int .u8 (s[k].toNat : Int)]) (t := 5) (fr := (0, 0)) (heap_alloc_new' _ _ _ (by simp))) (by intro u hu; simp at hu; (first | (subst hu; rfl) | (rcases hu with rfl | rfl <;> rfl) | (rcases hu with rfl | rfl | rfl | rfl <;> rfl))) (by omega) (by unfold maxLen; omega) (by omega) (by simp; omega) _ rfl ?_; intro g' cap' w2 hown hgrow hat hlt2)
            have hw2 := below_grown2 (wr := wr) hgrow (by go_grown) hw hz O.out
            go_roundw
            case rel => exact ⟨k + 1, n + 2, g', cap', by omega, by go_num, rfl, hnew.out.2.symm, by omega, by rw [hnew.out.1]; exact hown, hw2⟩
            case measure => simp [intOf]; omega
        · by_cases h3 : 32 ≤ (s[k].toNat : Int) ∧ (s[k].toNat : Int) ≤ 126
          · have hnew := Lib.hid (hfin _ (hqv.trans ((if_neg h1).trans ((if_neg h2).trans (if_pos h3)))))
            clear hqv hfin
            have d1 : ((s[k].toNat : Int) == 10) = false := by simpa using h1
            have d2 : ((s[k].toNat : Int) == 34) = false := by simp; omega
            have d3 : ((s[k].toNat : Int) == 92) = false := by simp; omega
            obtain ⟨d4, d5⟩ := h3
            clear h1 h2
            go_wp2_with (at_builtin; refine wpList_append_lies _ rfl _ _ _ rfl w.heap.size 5 i0 _ 1 1 Try.underlying22 I.out I0.out I1.out I2.out rfl (by omega) (.slice (some ⟨g, 0, none⟩) n cap) n ((quoteL (s.data.toList.take k)).map bval) rfl (own_below O.out (by go_grown)) ⟨wr.heap.size, 0, none⟩ 1 1 [.int .u8 (s[k].toNat : Int)] rfl rfl (World.news_of_block (cs := #[.int .u8 (s[k].toNat : Int)]) (t := 5) (fr := (0, 0)) (heap_alloc_new' _ _ _ (by simp))) (by intro u hu; simp at hu; (first | (subst hu; rfl) | (rcases hu with rfl | rfl <;> rfl) | (rcases hu with rfl | rfl | rfl | rfl <;> rfl))) (by omega) (by unfold maxLen; omega) (by omega) (by simp; omega) _ rfl ?_; intro g' cap' w2 hown hgrow hat hlt2)
            have hw2 := below_grown2 (wr := wr) hgrow (by go_grown) hw hz O.out
            go_roundw
            case rel => exact ⟨k + 1, n + 1, g', cap', by omega, by go_num, rfl, hnew.out.2.symm, by omega, by rw [hnew.out.1]; exact hown, hw2⟩
            case measure => simp [intOf]; omega
          · have hnew := Lib.hid (hfin _ (hqv.trans ((if_neg h1).trans ((if_neg h2).trans (if_neg h3)))))
            clear hqv hfin
            have d1 : ((s[k].toNat : Int) == 10) = false := by simpa using h1
            have d2 : ((s[k].toNat : Int) == 34) = false := by simp; omega
            have d3 : ((s[k].toNat : Int) == 92) = false := by simp; omega
            have d4 : (s[k].toNat : Int) < 32 ∨ (32 ≤ (s[k].toNat : Int) ∧ 126 < (s[k].toNat : Int)) := by omega
            clear h1 h2 h3
            rcases d4 with d4 | ⟨d4, d5⟩
            all_goals
              go_wp2_with (first | (at_builtin; refine wpList_append_lies _ rfl _ _ _ rfl w.heap.size 5 i0 _ 1 1 Try.underlying22 I.out I0.out I1.out I2.out rfl (by omega) (.slice (some ⟨g, 0, none⟩) n cap) n ((quoteL (s.data.toList.take k)).map bval) rfl (own_below O.out (by go_grown)) ⟨wr.heap.size, 0, none⟩ 4 4 [.int .u8 92, .int .u8 120, .int .u8 (hxI ((s[k].toNat : Int) / 16)), .int .u8 (hxI ((s[k].toNat : Int) % 16))] rfl rfl (World.news_of_block (cs := #[.int .u8 92, .int .u8 120, .int .u8 (hxI ((s[k].toNat : Int) / 16)), .int .u8 (hxI ((s[k].toNat : Int) % 16))]) (t := 5) (fr := (0, 0)) (heap_alloc_new' _ _ _ (by simp))) (by intro u hu; simp at hu; (first | (subst hu; rfl) | (rcases hu with rfl | rfl <;> rfl) | (rcases hu with rfl | rfl | rfl | rfl <;> rfl))) (by omega) (by unfold maxLen; omega) (by omega) (by simp; omega) _ rfl ?_; intro g' cap' w2 hown hgrow hat hlt2) | (go_at_call 76; ((with_reducible refine (l01Hex_c _ (by omega) (by omega) _).mono ?_); rintro e w1 ⟨rfl, rfl⟩)))
              have hw2 := below_grown2 (wr := wr) hgrow (by go_grown) hw hz O.out
              go_roundw
              case rel => exact ⟨k + 1, n + 4, g', cap', by omega, by go_num, rfl, hnew.out.2.symm, by omega, by rw [hnew.out.1]; exact hown, hw2⟩
              case measure => simp [intOf]; omega
    · obtain rfl : k = s.size := by omega
      have hfull : s.data.toList.take s.size = s.data.toList := allW_full s
      rw [hfull] at hn O
      have hq : quoteS s = ⟨(quoteL s.data.toList ++ [34]).toArray⟩ := rfl
      replace O := Lib.hid O
      replace hq := Lib.hid hq
      clear hfull
      go_wp2_with (at_builtin; refine wpList_append_lies _ rfl _ _ _ rfl w.heap.size 5 i0 _ 1 1 Try.underlying22 I.out I0.out I1.out I2.out rfl (by omega) (.slice (some ⟨g, 0, none⟩) n cap) n ((quoteL s.data.toList).map bval) rfl (own_below O.out (by go_grown)) ⟨wr.heap.size, 0, none⟩ 1 1 [.int .u8 34] rfl rfl (World.news_of_block (cs := #[.int .u8 34]) (t := 5) (fr := (0, 0)) (heap_alloc_new' _ _ _ (by simp))) (by intro u hu; simp at hu; (first | (subst hu; rfl) | (rcases hu with rfl | rfl <;> rfl) | (rcases hu with rfl | rfl | rfl | rfl <;> rfl))) (by omega) (by unfold maxLen; omega) (by omega) (by simp; omega) _ rfl ?_; intro g' cap' w2 hown hgrow hat hlt2; have hrun := conv_own (l := quoteL s.data.toList ++ [34]) (by rw [List.map_append]; exact hown) (by rw [List.length_append, hn.out]; rfl))
      have hw2 := below_grown2 (wr := wr) hgrow (by go_grown) hw hz O.out
      go_returns
      exact ⟨by rw [hq.out]; rfl, hw2⟩

end Go.Proofs.Ytpblhonnknmjjaa

/- The text of a value: plain law. -/
namespace Go.Proofs.Ytpblhonnknmjjaa
open Go.RowKit
set_option linter.unusedVariables false
set_option linter.unusedSimpArgs false

def PxT.kid (t : PxT) (i : Nat) : PxT := t.kids.getD i (.mk 0 0 ByteArray.empty [])
def bParen : ByteArray := ⟨#[40]⟩
def bClose : ByteArray := ⟨#[41]⟩
def bUnit : ByteArray := ⟨#[40, 41]⟩
def bComma : ByteArray := ⟨#[44, 32]⟩
def bColons : ByteArray := ⟨#[32, 58, 58, 32]⟩
def bSpace : ByteArray := ⟨#[32]⟩
def textT (f : Nat) (t : PxT) : ByteArray :=
  match f with
  | 0 => ByteArray.empty
  | f + 1 =>
    if t.kind = 3 then numText t.n
    else if t.kind = 2 then quoteS t.s
    else if t.kind = 6 then bUnit
    else if t.kind = 5 then bParen ++ textT f (t.kid 0) ++ bComma ++ textT f (t.kid 1) ++ bClose
    else if t.kids.length = 0 then t.s
    else if (t.s.toList == sCons) = true then bParen ++ textT (f - 1) ((t.kid 0).kid 0) ++ bColons ++ textT (f - 1) ((t.kid 0).kid 1) ++ bClose
    else bParen ++ t.s ++ bSpace ++ textT f (t.kid 0) ++ bClose
termination_by f

theorem textT_int (f : Nat) (n : Int) (s : ByteArray) (ks : List PxT) : textT (f + 1) (.mk 3 n s ks) = numText n := by rw [textT]; exact if_pos rfl
theorem textT_str (f : Nat) (n : Int) (s : ByteArray) (ks : List PxT) : textT (f + 1) (.mk 2 n s ks) = quoteS s := by rw [textT, if_neg (show ¬ (PxT.mk 2 n s ks).kind = 3 from (by decide : ¬ (2 : Int) = 3))]; exact if_pos rfl
theorem textT_unit (f : Nat) (n : Int) (s : ByteArray) (ks : List PxT) : textT (f + 1) (.mk 6 n s ks) = bUnit := by rw [textT, if_neg (show ¬ (PxT.mk 6 n s ks).kind = 3 from (by decide : ¬ (6 : Int) = 3)), if_neg (show ¬ (PxT.mk 6 n s ks).kind = 2 from (by decide : ¬ (6 : Int) = 2))]; exact if_pos rfl
theorem textT_pair (f : Nat) (n : Int) (s : ByteArray) (x y : PxT) : textT (f + 1) (.mk 5 n s [x, y]) = bParen ++ textT f x ++ bComma ++ textT f y ++ bClose := by rw [textT, if_neg (show ¬ (PxT.mk 5 n s [x, y]).kind = 3 from (by decide : ¬ (5 : Int) = 3)), if_neg (show ¬ (PxT.mk 5 n s [x, y]).kind = 2 from (by decide : ¬ (5 : Int) = 2)), if_neg (show ¬ (PxT.mk 5 n s [x, y]).kind = 6 from (by decide : ¬ (5 : Int) = 6))]; exact if_pos rfl
theorem textT_nil (f : Nat) (n : Int) (s : ByteArray) : textT (f + 1) (.mk 4 n s []) = s := by rw [textT, if_neg (show ¬ (PxT.mk 4 n s []).kind = 3 from (by decide : ¬ (4 : Int) = 3)), if_neg (show ¬ (PxT.mk 4 n s []).kind = 2 from (by decide : ¬ (4 : Int) = 2)), if_neg (show ¬ (PxT.mk 4 n s []).kind = 6 from (by decide : ¬ (4 : Int) = 6)), if_neg (show ¬ (PxT.mk 4 n s []).kind = 5 from (by decide : ¬ (4 : Int) = 5))]; exact if_pos rfl
theorem textT_cons (f : Nat) (n n5 : Int) (s s5 : ByteArray) (x y : PxT) (hs : (s.toList == sCons) = true) : textT (f + 2) (.mk 4 n s [.mk 5 n5 s5 [x, y]]) = bParen ++ textT f x ++ bColons ++ textT f y ++ bClose := by rw [textT, if_neg (show ¬ (PxT.mk 4 n s [.mk 5 n5 s5 [x, y]]).kind = 3 from (by decide : ¬ (4 : Int) = 3)), if_neg (show ¬ (PxT.mk 4 n s [.mk 5 n5 s5 [x, y]]).kind = 2 from (by decide : ¬ (4 : Int) = 2)), if_neg (show ¬ (PxT.mk 4 n s [.mk 5 n5 s5 [x, y]]).kind = 6 from (by decide : ¬ (4 : Int) = 6)), if_neg (show ¬ (PxT.mk 4 n s [.mk 5 n5 s5 [x, y]]).kind = 5 from (by decide : ¬ (4 : Int) = 5)), if_neg (show ¬ (PxT.mk 4 n s [.mk 5 n5 s5 [x, y]]).kids.length = 0 from (by decide : ¬ (1 : Nat) = 0))]; exact if_pos hs
theorem textT_con (f : Nat) (n : Int) (s : ByteArray) (x : PxT) (hs : (s.toList == sCons) = false) : textT (f + 1) (.mk 4 n s [x]) = bParen ++ s ++ bSpace ++ textT f x ++ bClose := by rw [textT, if_neg (show ¬ (PxT.mk 4 n s [x]).kind = 3 from (by decide : ¬ (4 : Int) = 3)), if_neg (show ¬ (PxT.mk 4 n s [x]).kind = 2 from (by decide : ¬ (4 : Int) = 2)), if_neg (show ¬ (PxT.mk 4 n s [x]).kind = 6 from (by decide : ¬ (4 : Int) = 6)), if_neg (show ¬ (PxT.mk 4 n s [x]).kind = 5 from (by decide : ¬ (4 : Int) = 5)), if_neg (show ¬ (PxT.mk 4 n s [x]).kids.length = 0 from (by decide : ¬ (1 : Nat) = 0))]; exact if_neg (show ¬ (s.toList == sCons) = true by rw [hs]; decide)

/-- A tree whose nodes have as many children as their kinds want. -/
def TOk : Nat → PxT → Prop
  | 0, _ => False
  | f + 1, t => t.wf ∧ ((t.kind = 3 ∧ t.kids = []) ∨ (t.kind = 2 ∧ t.kids = []) ∨ (t.kind = 6 ∧ t.kids = []) ∨ (t.kind = 5 ∧ ∃ a b, t.kids = [a, b]) ∨ (t.kind = 4 ∧ (t.kids = [] ∨ ∃ a, t.kids = [a] ∧ ((t.s.toList == sCons) = true → a.kind = 5)))) ∧ ∀ k ∈ t.kids, TOk f k

/-- How long a text may be. -/
def wt : Nat → PxT → Nat
  | 0, _ => 0
  | f + 1, t => 4 * t.s.size + 30 + (t.kids.map (wt f)).sum

theorem numText_len (n : Int) : (numText n).size ≤ 20 := by
  unfold numText
  split
  · rename_i h
    have := numS_len n.natAbs (by omega)
    split
    · rw [ByteArray.size_append]
      show 1 + (numS n.natAbs).size ≤ 20
      omega
    · omega
  · exact Nat.zero_le _
theorem quoteS_len (s : ByteArray) : (quoteS s).size ≤ 4 * s.size + 2 := by
  have := quoteL_len s.data.toList
  show (quoteL s.data.toList ++ [34]).toArray.size ≤ _
  have e : s.data.toList.length = s.size := rfl
  simp
  omega
theorem textT_len : ∀ (f : Nat) (t : PxT), TOk f t → (textT f t).size ≤ wt f t := by
  intro f
  induction f using Nat.strongRecOn with
  | _ f ih =>
    intro t ht
    match f, ht with
    | f + 1, ⟨hwf, hk, hkids⟩ =>
      rw [textT]
      unfold wt
      rcases hk with ⟨e, _⟩ | ⟨e, _⟩ | ⟨e, _⟩ | ⟨e, a, b, hab⟩ | ⟨e, hk⟩
      · rw [if_pos e]; have := numText_len t.n; omega
      · rw [if_neg (by omega), if_pos e]; have := quoteS_len t.s; omega
      · rw [if_neg (by omega), if_neg (by omega), if_pos e]; show 2 ≤ _; omega
      · rw [if_neg (by omega), if_neg (by omega), if_neg (by omega), if_pos e]
        have h1 := ih f (by omega) a (hkids a (by rw [hab]; simp))
        have h2 := ih f (by omega) b (hkids b (by rw [hab]; simp))
        simp only [ByteArray.size_append, PxT.kid, hab]
        show 1 + (textT f a).size + 2 + (textT f b).size + 1 ≤ _
        simp
        omega
      · rw [if_neg (by omega), if_neg (by omega), if_neg (by omega), if_neg (by omega)]
        rcases hk with hk | ⟨a, ha, hc⟩
        · rw [if_pos (by rw [hk]; rfl)]; omega
        · rw [if_neg (by rw [ha]; simp)]
          have hta := hkids a (by rw [ha]; simp)
          by_cases hs : (t.s.toList == sCons) = true
          · rw [if_pos hs]
            match f, hta with
            | f + 1, ⟨_, hka, hkk⟩ =>
              have e5 := hc hs
              obtain ⟨g0, g1, hg⟩ : ∃ g0 g1, a.kids = [g0, g1] := by
                rcases hka with ⟨e, _⟩ | ⟨e, _⟩ | ⟨e, _⟩ | ⟨e, h⟩ | ⟨e, _⟩
                · omega
                · omega
                · omega
                · exact h
                · omega
              have h1 := ih f (by omega) g0 (hkk g0 (by rw [hg]; simp))
              have h2 := ih f (by omega) g1 (hkk g1 (by rw [hg]; simp))
              simp only [ByteArray.size_append, PxT.kid, ha]
              show 1 + (textT f ((a.kids).getD 0 _)).size + 4 + (textT f ((a.kids).getD 1 _)).size + 1 ≤ _
              rw [hg]
              simp [wt, hg]
              omega
          · rw [if_neg hs]
            have h1 := ih f (by omega) a hta
            simp only [ByteArray.size_append, PxT.kid, ha]
            show 1 + t.s.size + 1 + (textT f a).size + 1 ≤ _
            simp
            omega

end Go.Proofs.Ytpblhonnknmjjaa

/- The text of a value: the program's dataText. -/
namespace Go.Proofs.Ytpblhonnknmjjaa
open Go.RowKit
set_option linter.unusedVariables false
set_option linter.unusedSimpArgs false
attribute [local go_sem] Ext.cell

/-- What the function owes at trees of at most f levels. -/
def TextAt (f : Nat) : Prop := ∀ (S : Nat → Prop) (v : Value) (t : PxT) (w : World), PxR f S w v t → TOk f t → wt f t ≤ 1073741824 → Calls Try.prog 26 #[v] w fun e w' => e = .returned (.string (textT f t)) ∧ Below w.heap.size w w'

set_option maxRecDepth 100000 in
set_option maxHeartbeats 4000000 in
theorem text_leaf (f : Nat) (b : Nat) (kd n : Int) (s : ByteArray) (u : Value) (w : World) (hr : RowAt w b 0 [.int .i64 kd, .int .i64 n, .string s, u]) (hn : I64 n) (hs : s.size ≤ 1073741824) (r : ByteArray)
    (hk : (kd = 3 ∧ r = numText n) ∨ (kd = 2 ∧ r = quoteS s) ∨ (kd = 6 ∧ r = bUnit) ∨ (kd = 4 ∧ (∃ a c, u = .slice a 0 c) ∧ r = s)) :
    Calls Try.prog 26 #[.pointer (some ⟨b, 0, none⟩)] w fun e w' => e = .returned (.string r) ∧ Below w.heap.size w w' := by
  obtain ⟨e0, e1, e2, e3⟩ := hr.box4
  clear hr
  rcases hk with ⟨rfl, rfl⟩ | ⟨rfl, rfl⟩ | ⟨rfl, rfl⟩ | ⟨rfl, ⟨a, c, rfl⟩, rfl⟩
  · have c1 := fun W => impl_NumText_c n hn W
    generalize numText n = t at *
    go_enter Try.func26, Try.ntmps26
    go_wp2_with (go_at_call 48; ((with_reducible refine (c1 _).mono ?_); rintro e w1 ⟨rfl, hb⟩))
    go_returns
    exact ⟨rfl, hb⟩
  · have c1 := fun W => impl_Quote_c s (by omega) W
    generalize quoteS s = t at *
    go_enter Try.func26, Try.ntmps26
    go_wp2_with (go_at_call 49; ((with_reducible refine (c1 _).mono ?_); rintro e w1 ⟨rfl, hb⟩))
    go_returns
    exact ⟨rfl, hb⟩
  · go_enter Try.func26, Try.ntmps26
    go_wp2_with fail
    go_returns
    exact ⟨rfl, Below.refl _ _⟩
  · go_enter Try.func26, Try.ntmps26
    go_wp2_with fail
    go_returns
    exact ⟨rfl, Below.refl _ _⟩

set_option maxRecDepth 100000 in
set_option maxHeartbeats 4000000 in
theorem text_pair (b g off b0 b1 cap : Nat) (n : Int) (s A B : ByteArray) (w : World) (hr : RowAt w b 0 [.int .i64 5, .int .i64 n, .string s, .slice (some ⟨g, off, none⟩) 2 cap]) (hcap : 2 ≤ cap) (hcm : cap ≤ 9223372036854775807)
    (p0 : w.cell? ⟨g, off, none⟩ = some (.pointer (some ⟨b0, 0, none⟩))) (p1 : w.cell? ⟨g, off + 1, none⟩ = some (.pointer (some ⟨b1, 0, none⟩))) (hA : A.size ≤ 1073741824) (hB : B.size ≤ 1073741824)
    (cA : ∀ W, Below w.heap.size w W → Calls Try.prog 26 #[.pointer (some ⟨b0, 0, none⟩)] W fun e w' => e = .returned (.string A) ∧ Below W.heap.size W w')
    (cB : ∀ W, Below w.heap.size w W → Calls Try.prog 26 #[.pointer (some ⟨b1, 0, none⟩)] W fun e w' => e = .returned (.string B) ∧ Below W.heap.size W w') :
    Calls Try.prog 26 #[.pointer (some ⟨b, 0, none⟩)] w fun e w' => e = .returned (.string (bParen ++ A ++ bComma ++ B ++ bClose)) ∧ Below w.heap.size w w' := by
  obtain ⟨e0, e1, e2, e3⟩ := hr.box4
  have hK : Below w.heap.size w w := Below.refl _ _
  have l1 : (9223372036854775807 < 1 + A.size) = False := by simp; omega
  have l2 : (9223372036854775807 < 1 + A.size + 2) = False := by simp; omega
  have l3 : (9223372036854775807 < 1 + A.size + 2 + B.size) = False := by simp; omega
  have l4 : (9223372036854775807 < 1 + A.size + 2 + B.size + 1) = False := by simp; omega
  replace cA := Lib.hid cA; replace cB := Lib.hid cB
  clear hr
  go_enter Try.func26, Try.ntmps26
  go_wp2_with fail
  go_region_held3 (fun w' => w'.cell? ⟨b, 3, none⟩ = some (.slice (some ⟨g, off, none⟩) 2 cap) ∧ w'.cell? ⟨g, off, none⟩ = some (.pointer (some ⟨b0, 0, none⟩)) ∧ w'.cell? ⟨g, off + 1, none⟩ = some (.pointer (some ⟨b1, 0, none⟩)))
    (first | go_keep | (refine ⟨cell_below hb ?_, cell_below hb ?_, cell_below hb ?_⟩ <;> go_keep))
    (first
      | (go_at_call 26; ((with_reducible refine (cA.out _ (by go_grown)).mono ?_); rintro e w1 ⟨rfl, hb⟩; have hK : Below w.heap.size w w1 := Below.trans (by go_grown) (hb.mono (by first | (simp; done) | (have := hK.size; omega)))))
      | (go_at_call 26; ((with_reducible refine (cB.out _ (by go_grown)).mono ?_); rintro e w1 ⟨rfl, hb⟩; have hK : Below w.heap.size w w1 := Below.trans (by go_grown) (hb.mono (by first | (simp; done) | (have := hK.size; omega))))))
  all_goals go_wp2_with fail
  all_goals go_returns
  all_goals exact ⟨rfl, hK⟩

end Go.Proofs.Ytpblhonnknmjjaa

/- The text of a value: the program's dataText, constructors, and all. -/
namespace Go.Proofs.Ytpblhonnknmjjaa
open Go.RowKit
set_option linter.unusedVariables false
set_option linter.unusedSimpArgs false
attribute [local go_sem] Ext.cell

set_option maxRecDepth 100000 in
set_option maxHeartbeats 4000000 in
theorem text_cons (b g off c0 g2 off2 b0 b1 cap cap2 : Nat) (n : Int) (s A B : ByteArray) (w : World) (hr : RowAt w b 0 [.int .i64 4, .int .i64 n, .string s, .slice (some ⟨g, off, none⟩) 1 cap]) (hcap : 1 ≤ cap) (hcm : cap ≤ 9223372036854775807)
    (p : w.cell? ⟨g, off, none⟩ = some (.pointer (some ⟨c0, 0, none⟩))) (q : w.cell? ⟨c0, 3, none⟩ = some (.slice (some ⟨g2, off2, none⟩) 2 cap2)) (hcap2 : 2 ≤ cap2) (hcm2 : cap2 ≤ 9223372036854775807) (hs : (s.toList == sCons) = true)
    (p0 : w.cell? ⟨g2, off2, none⟩ = some (.pointer (some ⟨b0, 0, none⟩))) (p1 : w.cell? ⟨g2, off2 + 1, none⟩ = some (.pointer (some ⟨b1, 0, none⟩))) (hA : A.size ≤ 1073741824) (hB : B.size ≤ 1073741824)
    (cA : ∀ W, Below w.heap.size w W → Calls Try.prog 26 #[.pointer (some ⟨b0, 0, none⟩)] W fun e w' => e = .returned (.string A) ∧ Below W.heap.size W w')
    (cB : ∀ W, Below w.heap.size w W → Calls Try.prog 26 #[.pointer (some ⟨b1, 0, none⟩)] W fun e w' => e = .returned (.string B) ∧ Below W.heap.size W w') :
    Calls Try.prog 26 #[.pointer (some ⟨b, 0, none⟩)] w fun e w' => e = .returned (.string (bParen ++ A ++ bColons ++ B ++ bClose)) ∧ Below w.heap.size w w' := by
  obtain ⟨e0, e1, e2, e3⟩ := hr.box4
  have hK : Below w.heap.size w w := Below.refl _ _
  unfold sCons at hs
  have l1 : (9223372036854775807 < 1 + A.size) = False := by simp; omega
  have l2 : (9223372036854775807 < 1 + A.size + 4) = False := by simp; omega
  have l3 : (9223372036854775807 < 1 + A.size + 4 + B.size) = False := by simp; omega
  have l4 : (9223372036854775807 < 1 + A.size + 4 + B.size + 1) = False := by simp; omega
  replace cA := Lib.hid cA; replace cB := Lib.hid cB
  clear hr
  go_enter Try.func26, Try.ntmps26
  go_wp2_with fail
  go_region_held3 (fun w' => w'.cell? ⟨b, 3, none⟩ = some (.slice (some ⟨g, off, none⟩) 1 cap) ∧ w'.cell? ⟨g, off, none⟩ = some (.pointer (some ⟨c0, 0, none⟩)) ∧ w'.cell? ⟨c0, 3, none⟩ = some (.slice (some ⟨g2, off2, none⟩) 2 cap2) ∧ w'.cell? ⟨g2, off2, none⟩ = some (.pointer (some ⟨b0, 0, none⟩)) ∧ w'.cell? ⟨g2, off2 + 1, none⟩ = some (.pointer (some ⟨b1, 0, none⟩)))
    (first | go_keep | (refine ⟨cell_below hb ?_, cell_below hb ?_, cell_below hb ?_, cell_below hb ?_, cell_below hb ?_⟩ <;> go_keep))
    (first
      | (go_at_call 26; ((with_reducible refine (cA.out _ (by go_grown)).mono ?_); rintro e w1 ⟨rfl, hb⟩; have hK : Below w.heap.size w w1 := Below.trans (by go_grown) (hb.mono (by first | (simp; done) | (have := hK.size; omega)))))
      | (go_at_call 26; ((with_reducible refine (cB.out _ (by go_grown)).mono ?_); rintro e w1 ⟨rfl, hb⟩; have hK : Below w.heap.size w w1 := Below.trans (by go_grown) (hb.mono (by first | (simp; done) | (have := hK.size; omega))))))
  all_goals go_wp2_with fail
  all_goals go_returns
  all_goals exact ⟨rfl, hK⟩

set_option maxRecDepth 100000 in
set_option maxHeartbeats 4000000 in
theorem text_con (b g off b0 cap : Nat) (n : Int) (s A : ByteArray) (w : World) (hr : RowAt w b 0 [.int .i64 4, .int .i64 n, .string s, .slice (some ⟨g, off, none⟩) 1 cap]) (hcap : 1 ≤ cap) (hcm : cap ≤ 9223372036854775807)
    (p0 : w.cell? ⟨g, off, none⟩ = some (.pointer (some ⟨b0, 0, none⟩))) (hs : (s.toList == sCons) = false) (hss : s.size ≤ 1073741824) (hA : A.size ≤ 1073741824)
    (cA : ∀ W, Below w.heap.size w W → Calls Try.prog 26 #[.pointer (some ⟨b0, 0, none⟩)] W fun e w' => e = .returned (.string A) ∧ Below W.heap.size W w') :
    Calls Try.prog 26 #[.pointer (some ⟨b, 0, none⟩)] w fun e w' => e = .returned (.string (bParen ++ s ++ bSpace ++ A ++ bClose)) ∧ Below w.heap.size w w' := by
  obtain ⟨e0, e1, e2, e3⟩ := hr.box4
  have hK : Below w.heap.size w w := Below.refl _ _
  unfold sCons at hs
  have l1 : (9223372036854775807 < 1 + s.size) = False := by simp; omega
  have l2 : (9223372036854775807 < 1 + s.size + 1) = False := by simp; omega
  have l3 : (9223372036854775807 < 1 + s.size + 1 + A.size) = False := by simp; omega
  have l4 : (9223372036854775807 < 1 + s.size + 1 + A.size + 1) = False := by simp; omega
  replace cA := Lib.hid cA
  clear hr
  go_enter Try.func26, Try.ntmps26
  go_wp2_with fail
  go_region_held3 (fun w' => w'.cell? ⟨b, 2, none⟩ = some (.string s) ∧ w'.cell? ⟨b, 3, none⟩ = some (.slice (some ⟨g, off, none⟩) 1 cap) ∧ w'.cell? ⟨g, off, none⟩ = some (.pointer (some ⟨b0, 0, none⟩)))
    (first | go_keep | (refine ⟨cell_below hb ?_, cell_below hb ?_, cell_below hb ?_⟩ <;> go_keep))
    ((go_at_call 26; ((with_reducible refine (cA.out _ (by go_grown)).mono ?_); rintro e w1 ⟨rfl, hb⟩; have hK : Below w.heap.size w w1 := Below.trans (by go_grown) (hb.mono (by first | (simp; done) | (have := hK.size; omega))))))
  all_goals go_wp2_with fail
  all_goals go_returns
  all_goals exact ⟨rfl, hK⟩

theorem dataText_c : ∀ f, TextAt f := by
  intro f
  induction f using Nat.strongRecOn with
  | _ f ih =>
    intro S v t w h ht hw
    match f, h, ht, hw with
    | f + 1, ⟨b, a, cap, hv, _, hwf, hr, h1, h2, h3⟩, ⟨_, hk, hkids⟩, hw =>
      subst hv
      obtain ⟨kd, n, s, ks⟩ := t
      have hn : I64 n := hwf.2.1
      simp only [PxT.kind, PxT.n, PxT.s, PxT.kids] at *
      have hwt : 4 * s.size + 30 + (ks.map (wt f)).sum ≤ 1073741824 := hw
      rcases hk with ⟨e, hk⟩ | ⟨e, hk⟩ | ⟨e, hk⟩ | ⟨e, x, y, hk⟩ | ⟨e, hk | ⟨x, hk, hx5⟩⟩
      · subst e; rw [textT_int]
        exact text_leaf f b 3 n s _ w hr hn (by omega) _ (.inl ⟨rfl, rfl⟩)
      · subst e; rw [textT_str]
        exact text_leaf f b 2 n s _ w hr hn (by omega) _ (.inr (.inl ⟨rfl, rfl⟩))
      · subst e; rw [textT_unit]
        exact text_leaf f b 6 n s _ w hr hn (by omega) _ (.inr (.inr (.inl ⟨rfl, rfl⟩)))
      · subst e; subst hk
        rw [textT_pair]
        obtain ⟨g, off, rfl, _, hc⟩ := h3 (by simp)
        obtain ⟨p0, q0, R0⟩ := hc 0 x rfl
        obtain ⟨p1, q1, R1⟩ := hc 1 y rfl
        obtain ⟨b0, rfl⟩ := R0.form
        obtain ⟨b1, rfl⟩ := R1.form
        have tx := hkids x (by simp)
        have ty := hkids y (by simp)
        simp at hwt
        have lx := textT_len f x tx
        have ly := textT_len f y ty
        exact text_pair b g off b0 b1 cap n s (textT f x) (textT f y) w hr h1 h2 (by simpa using q0) q1 (by omega) (by omega)
          (fun W hW => ih f (by omega) S _ x W (R0.below hW) tx (by omega)) (fun W hW => ih f (by omega) S _ y W (R1.below hW) ty (by omega))
      · subst e; subst hk
        rw [textT_nil]
        exact text_leaf f b 4 n s _ w hr hn (by omega) _ (.inr (.inr (.inr ⟨rfl, ⟨a, cap, rfl⟩, rfl⟩)))
      · subst e; subst hk
        obtain ⟨g, off, rfl, _, hc⟩ := h3 (by simp)
        obtain ⟨p0, q0, R0⟩ := hc 0 x rfl
        obtain ⟨b0, rfl⟩ := R0.form
        have tx := hkids x (by simp)
        simp at hwt
        by_cases hs : (s.toList == sCons) = true
        · have e5 := hx5 hs
          match f, R0, tx with
          | f + 1, ⟨c0, a2, cap2, hv2, _, _, hr2, h12, h22, h32⟩, ⟨_, hkx, hkidsx⟩ =>
            obtain ⟨k5, n5, s5, ks5⟩ := x
            simp only [PxT.kind, PxT.n, PxT.s, PxT.kids] at *
            subst e5
            obtain ⟨x0, x1, hk5⟩ : ∃ x0 x1, ks5 = [x0, x1] := by
              rcases hkx with ⟨e, _⟩ | ⟨e, _⟩ | ⟨e, _⟩ | ⟨_, h⟩ | ⟨e, _⟩
              · omega
              · omega
              · omega
              · exact h
              · omega
            subst hk5
            rw [textT_cons _ _ _ _ _ _ _ hs]
            obtain ⟨g2, off2, rfl, _, hc2⟩ := h32 (by simp)
            obtain ⟨p2, q2, R2⟩ := hc2 0 x0 rfl
            obtain ⟨p3, q3, R3⟩ := hc2 1 x1 rfl
            obtain ⟨b2, rfl⟩ := R2.form
            obtain ⟨b3, rfl⟩ := R3.form
            obtain rfl : b0 = c0 := by injection hv2 with h; injection h with h; injection h with h
            have t0 := hkidsx x0 (by simp)
            have t1 := hkidsx x1 (by simp)
            have hw5 : 4 * s5.size + 30 + (wt f x0 + wt f x1) ≤ 1073741824 := by
              have : wt (f + 1) (.mk 5 n5 s5 [x0, x1]) = 4 * s5.size + 30 + (wt f x0 + wt f x1) := by
                show 4 * s5.size + 30 + ([x0, x1].map (wt f)).sum = _
                simp
              omega
            have l0 := textT_len f x0 t0
            have l1 := textT_len f x1 t1
            exact text_cons b g off b0 g2 off2 b2 b3 cap cap2 n s (textT f x0) (textT f x1) w hr h1 h2 (by simpa using q0) hr2.box4.2.2.2 h12 h22 hs (by simpa using q2) q3 (by omega) (by omega)
              (fun W hW => ih f (by omega) S _ x0 W (R2.below hW) t0 (by omega)) (fun W hW => ih f (by omega) S _ x1 W (R3.below hW) t1 (by omega))
        · rw [textT_con _ _ _ _ (by simpa using hs)]
          have lx := textT_len f x tx
          exact text_con b g off b0 cap n s (textT f x) w hr h1 h2 (by simpa using q0) (by simpa using hs) (by omega) (by omega) (fun W hW => ih f (by omega) S _ x W (R0.below hW) tx (by omega))

end Go.Proofs.Ytpblhonnknmjjaa
