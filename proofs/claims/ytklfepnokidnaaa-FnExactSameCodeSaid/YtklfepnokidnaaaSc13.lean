/- Parts of the proof, merged: Quote2, Text. -/
import Derived.Test.YtklfepnokidnaaaSc12
/- The text of a string in quotes: the reference's Quote. -/
namespace Go.Proofs.Ytklfepnokidnaaa
open Go.RowKit
set_option linter.unusedVariables false
set_option linter.unusedSimpArgs false
attribute [local go_sem] Ext.cell

set_option maxRecDepth 100000 in
set_option maxHeartbeats 4000000 in
theorem l01Hex_c (z : Int) (h0 : 0 ≤ z) (h1 : z ≤ 15) (w : World) : Calls Try.prog 58 #[.int .i64 z] w fun e w' => e = .returned (.int .u8 (hxI z)) ∧ w = w' := by
  have h : z = 0 ∨ z = 1 ∨ z = 2 ∨ z = 3 ∨ z = 4 ∨ z = 5 ∨ z = 6 ∨ z = 7 ∨ z = 8 ∨ z = 9 ∨ z = 10 ∨ z = 11 ∨ z = 12 ∨ z = 13 ∨ z = 14 ∨ z = 15 := by omega
  rcases h with rfl | rfl | rfl | rfl | rfl | rfl | rfl | rfl | rfl | rfl | rfl | rfl | rfl | rfl | rfl | rfl
  all_goals
    clear h0 h1
    go_enter Try.func58, Try.ntmps58
    go_wp2
    go_returns
    exact ⟨rfl, rfl⟩

set_option maxRecDepth 100000 in
set_option maxHeartbeats 8000000 in
theorem spec_Quote_c (s : ByteArray) (hs : s.size ≤ 1099511627776) (w : World) :
    Calls Try.prog 29 #[.string s] w fun e w' => e = .returned (.string (quoteS s)) ∧ Below w.heap.size w w' := by
  obtain ⟨i0, hi0, hz0, hz1, hz2⟩ := info_parts info_u8
  have I := Lib.hid hi0; have I0 := Lib.hid hz0; have I1 := Lib.hid hz1; have I2 := Lib.hid hz2
  clear hi0 hz0 hz1 hz2
  go_enter Try.func29, Try.ntmps29
  go_wp2_with fail
  go_loopw [3, 4] (fun v i wr => ∃ (k n g cap : Nat), k ≤ s.size ∧ i = .int .i64 k ∧ v = .slice (some ⟨g, 0, none⟩) n cap ∧ Hid (n = (quoteL (s.data.toList.take k)).length) ∧ n ≤ 4 * k + 1 ∧ wr.ownsRow w.heap.size 5 1 v n ((quoteL (s.data.toList.take k)).map bval) ∧ Below w.heap.size w wr) (fun _ i _ => s.size - (intOf i).toNat)
  case atStart => exact ⟨0, 1, w.heap.size, 1, by omega, rfl, rfl, rfl, by omega, own_new w #[.int .u8 34] 5 1 1 rfl (by unfold maxLen; omega) _ (Nat.le_refl _), by go_grown⟩
  case round =>
    obtain ⟨k, n, g, cap, hk, rfl, rfl, hn, hnk, O, hw⟩ := hrel
    have hz := hw.size
    by_cases hlt : k < s.size
    · have hst := quoteL_take s k hlt
      have hq4 := quoteB_len s[k]
      have hb0 : (0 : Int) ≤ (s[k].toNat : Int) := by omega
      have hb1 : (s[k].toNat : Int) ≤ 255 := by have := s[k].toNat_lt; omega
      have hqv : (quoteB s[k]).map bval = (if (s[k].toNat : Int) = 10 then [.int .u8 92, .int .u8 110] else if (s[k].toNat : Int) = 34 ∨ (s[k].toNat : Int) = 92 then [.int .u8 92, .int .u8 (s[k].toNat : Int)] else if 32 ≤ (s[k].toNat : Int) ∧ (s[k].toNat : Int) ≤ 126 then [.int .u8 (s[k].toNat : Int)] else [.int .u8 92, .int .u8 120, .int .u8 (hxI ((s[k].toNat : Int) / 16)), .int .u8 (hxI ((s[k].toNat : Int) % 16))]) := by
        have hlt := s[k].toNat_lt
        have e1 := hxB_val (s[k].toNat / 16) (by omega)
        have e2 := hxB_val (s[k].toNat % 16) (by omega)
        unfold quoteB
        split
        · rfl
        · split
          · rfl
          · split
            · rfl
            · simp only [List.map_cons, List.map_nil, e1, e2]
              simp [bval]
      have hfin : ∀ (news : List Value), (quoteB s[k]).map bval = news → (quoteL (s.data.toList.take (k + 1))).map bval = (quoteL (s.data.toList.take k)).map bval ++ news ∧ (quoteL (s.data.toList.take (k + 1))).length = n + news.length := fun news h => by
        rw [hst, List.map_append, h, List.length_append, hn.out, ← h, List.length_map]
        exact ⟨rfl, rfl⟩
      clear hst hq4
      replace O := Lib.hid O
      by_cases h1 : (s[k].toNat : Int) = 10
      · have hnew := Lib.hid (hfin _ (hqv.trans (if_pos h1)))
        clear hqv hfin
        have d1 : ((s[k].toNat : Int) == 10) = true := by rw [h1]; rfl
        clear h1
        go_wp2_with (at_builtin; refine wpList_append_lies _ rfl _ _ _ rfl w.heap.size 5 i0 _ 1 1 Try.underlying67 I.out I0.out I1.out I2.out rfl (by omega) (.slice (some ⟨g, 0, none⟩) n cap) n ((quoteL (s.data.toList.take k)).map bval) rfl (own_below O.out (by go_grown)) ⟨wr.heap.size, 0, none⟩ 2 2 [.int .u8 92, .int .u8 110] rfl rfl (World.news_of_block (cs := #[.int .u8 92, .int .u8 110]) (t := 5) (fr := (0, 0)) (heap_alloc_new' _ _ _ (by simp))) (by intro u hu; simp at hu; (first | (subst hu; rfl) | (rcases hu with rfl | rfl <;> rfl) | (rcases hu with rfl | rfl | rfl | rfl <;> rfl))) (by omega) (by unfold maxLen; omega) (by omega) (by simp; omega) _ rfl ?_; intro g' cap' w2 hown hgrow hat hlt2)
        have hw2 := below_grown2 (wr := wr) hgrow (by go_grown) hw hz O.out
        go_roundw
        case rel => exact ⟨k + 1, n + 2, g', cap', by omega, by go_num, rfl, hnew.out.2.symm, by omega, by rw [hnew.out.1]; exact hown, hw2⟩
        case measure => simp [intOf]; omega
      · by_cases h2 : (s[k].toNat : Int) = 34 ∨ (s[k].toNat : Int) = 92
        · have hnew := Lib.hid (hfin _ (hqv.trans ((if_neg h1).trans (if_pos h2))))
          clear hqv hfin
          have d1 : ((s[k].toNat : Int) == 10) = false := by simpa using h1
          have d2 : ((s[k].toNat : Int) == 34) = true ∨ (((s[k].toNat : Int) == 34) = false ∧ ((s[k].toNat : Int) == 92) = true) := by rcases h2 with h | h <;> simp [h]
          clear h1 h2
          rcases d2 with d2 | ⟨d2, d3⟩
          all_goals
            go_wp2_with (at_builtin; refine wpList_append_lies _ rfl _ _ _ rfl w.heap.size 5 i0 _ 1 1 Try.underlying67 I.out I0.out I1.out I2.out rfl (by omega) (.slice (some ⟨g, 0, none⟩) n cap) n ((quoteL (s.data.toList.take k)).map bval) rfl (own_below O.out (by go_grown)) ⟨wr.heap.size, 0, none⟩ 2 2 [.int .u8 92, .int .u8 (s[k].toNat : Int)] rfl rfl (World.news_of_block (cs := #[.int .u8 92, .int .u8 (s[k].toNat : Int)]) (t := 5) (fr := (0, 0)) (heap_alloc_new' _ _ _ (by simp))) (by intro u hu; simp at hu; (first | (subst hu; rfl) | (rcases hu with rfl | rfl <;> rfl) | (rcases hu with rfl | rfl | rfl | rfl <;> rfl))) (by omega) (by unfold maxLen; omega) (by omega) (by simp; omega) _ rfl ?_; intro g' cap' w2 hown hgrow hat hlt2)
            have hw2 := below_grown2 (wr := wr) hgrow (by go_grown) hw hz O.out
            go_roundw
            case rel => exact ⟨k + 1, n + 2, g', cap', by omega, by go_num, rfl, hnew.out.2.symm, by omega, by rw [hnew.out.1]; exact hown, hw2⟩
            case measure => simp [intOf]; omega
        · by_cases h3 : 32 ≤ (s[k].toNat : Int) ∧ (s[k].toNat : Int) ≤ 126
          · have hnew := Lib.hid (hfin _ (hqv.trans ((if_neg h1).trans ((if_neg h2).trans (if_pos h3)))))
            clear hqv hfin
            have d1 : ((s[k].toNat : Int) == 10) = false := by simpa using h1
            have d2 : ((s[k].toNat : Int) == 34) = false := by simp; omega
            have d3 : ((s[k].toNat : Int) == 92) = false := by simp; omega
            obtain ⟨d4, d5⟩ := h3
            clear h1 h2
            go_wp2_with (at_builtin; refine wpList_append_lies _ rfl _ _ _ rfl w.heap.size 5 i0 _ 1 1 Try.underlying67 I.out I0.out I1.out I2.out rfl (by omega) (.slice (some ⟨g, 0, none⟩) n cap) n ((quoteL (s.data.toList.take k)).map bval) rfl (own_below O.out (by go_grown)) ⟨wr.heap.size, 0, none⟩ 1 1 [.int .u8 (s[k].toNat : Int)] rfl rfl (World.news_of_block (cs := #[.int .u8 (s[k].toNat : Int)]) (t := 5) (fr := (0, 0)) (heap_alloc_new' _ _ _ (by simp))) (by intro u hu; simp at hu; (first | (subst hu; rfl) | (rcases hu with rfl | rfl <;> rfl) | (rcases hu with rfl | rfl | rfl | rfl <;> rfl))) (by omega) (by unfold maxLen; omega) (by omega) (by simp; omega) _ rfl ?_; intro g' cap' w2 hown hgrow hat hlt2)
            have hw2 := below_grown2 (wr := wr) hgrow (by go_grown) hw hz O.out
            go_roundw
            case rel => exact ⟨k + 1, n + 1, g', cap', by omega, by go_num, rfl, hnew.out.2.symm, by omega, by rw [hnew.out.1]; exact hown, hw2⟩
            case measure => simp [intOf]; omega
          · have hnew := Lib.hid (hfin _ (hqv.trans ((if_neg h1).trans ((if_neg h2).trans (if_neg h3)))))
            clear hqv hfin
            have d1 : ((s[k].toNat : Int) == 10) = false := by simpa using h1
            have d2 : ((s[k].toNat : Int) == 34) = false := by simp; omega
            have d3 : ((s[k].toNat : Int) == 92) = false := by simp; omega
            have d4 : (s[k].toNat : Int) < 32 ∨ (32 ≤ (s[k].toNat : Int) ∧ 126 < (s[k].toNat : Int)) := by omega
            clear h1 h2 h3
            rcases d4 with d4 | ⟨d4, d5⟩
            all_goals
              go_wp2_with (first | (at_builtin; refine wpList_append_lies _ rfl _ _ _ rfl w.heap.size 5 i0 _ 1 1 Try.underlying67 I.out I0.out I1.out I2.out rfl (by omega) (.slice (some ⟨g, 0, none⟩) n cap) n ((quoteL (s.data.toList.take k)).map bval) rfl (own_below O.out (by go_grown)) ⟨wr.heap.size, 0, none⟩ 4 4 [.int .u8 92, .int .u8 120, .int .u8 (hxI ((s[k].toNat : Int) / 16)), .int .u8 (hxI ((s[k].toNat : Int) % 16))] rfl rfl (World.news_of_block (cs := #[.int .u8 92, .int .u8 120, .int .u8 (hxI ((s[k].toNat : Int) / 16)), .int .u8 (hxI ((s[k].toNat : Int) % 16))]) (t := 5) (fr := (0, 0)) (heap_alloc_new' _ _ _ (by simp))) (by intro u hu; simp at hu; (first | (subst hu; rfl) | (rcases hu with rfl | rfl <;> rfl) | (rcases hu with rfl | rfl | rfl | rfl <;> rfl))) (by omega) (by unfold maxLen; omega) (by omega) (by simp; omega) _ rfl ?_; intro g' cap' w2 hown hgrow hat hlt2) | (go_at_call 58; ((with_reducible refine (l01Hex_c _ (by omega) (by omega) _).mono ?_); rintro e w1 ⟨rfl, rfl⟩)))
              have hw2 := below_grown2 (wr := wr) hgrow (by go_grown) hw hz O.out
              go_roundw
              case rel => exact ⟨k + 1, n + 4, g', cap', by omega, by go_num, rfl, hnew.out.2.symm, by omega, by rw [hnew.out.1]; exact hown, hw2⟩
              case measure => simp [intOf]; omega
    · obtain rfl : k = s.size := by omega
      have hfull : s.data.toList.take s.size = s.data.toList := allW_full s
      rw [hfull] at hn O
      have hq : quoteS s = ⟨(quoteL s.data.toList ++ [34]).toArray⟩ := rfl
      replace O := Lib.hid O
      replace hq := Lib.hid hq
      clear hfull
      go_wp2_with (at_builtin; refine wpList_append_lies _ rfl _ _ _ rfl w.heap.size 5 i0 _ 1 1 Try.underlying67 I.out I0.out I1.out I2.out rfl (by omega) (.slice (some ⟨g, 0, none⟩) n cap) n ((quoteL s.data.toList).map bval) rfl (own_below O.out (by go_grown)) ⟨wr.heap.size, 0, none⟩ 1 1 [.int .u8 34] rfl rfl (World.news_of_block (cs := #[.int .u8 34]) (t := 5) (fr := (0, 0)) (heap_alloc_new' _ _ _ (by simp))) (by intro u hu; simp at hu; (first | (subst hu; rfl) | (rcases hu with rfl | rfl <;> rfl) | (rcases hu with rfl | rfl | rfl | rfl <;> rfl))) (by omega) (by unfold maxLen; omega) (by omega) (by simp; omega) _ rfl ?_; intro g' cap' w2 hown hgrow hat hlt2; have hrun := conv_own (l := quoteL s.data.toList ++ [34]) (by rw [List.map_append]; exact hown) (by rw [List.length_append, hn.out]; rfl))
      have hw2 := below_grown2 (wr := wr) hgrow (by go_grown) hw hz O.out
      go_returns
      exact ⟨by rw [hq.out]; rfl, hw2⟩

end Go.Proofs.Ytklfepnokidnaaa

/- The text of a value: plain law. -/
namespace Go.Proofs.Ytklfepnokidnaaa
open Go.RowKit
set_option linter.unusedVariables false
set_option linter.unusedSimpArgs false

def PxT.kid (t : PxT) (i : Nat) : PxT := t.kids.getD i (.mk 0 0 ByteArray.empty [])
def bParen : ByteArray := ⟨#[40]⟩
def bClose : ByteArray := ⟨#[41]⟩
def bUnit : ByteArray := ⟨#[40, 41]⟩
def bComma : ByteArray := ⟨#[44, 32]⟩
def bColons : ByteArray := ⟨#[32, 58, 58, 32]⟩
def bSpace : ByteArray := ⟨#[32]⟩
def textT (f : Nat) (t : PxT) : ByteArray :=
  match f with
  | 0 => ByteArray.empty
  | f + 1 =>
    if t.kind = 3 then numText t.n
    else if t.kind = 2 then quoteS t.s
    else if t.kind = 6 then bUnit
    else if t.kind = 5 then bParen ++ textT f (t.kid 0) ++ bComma ++ textT f (t.kid 1) ++ bClose
    else if t.kids.length = 0 then t.s
    else if (t.s.toList == sCons) = true then bParen ++ textT (f - 1) ((t.kid 0).kid 0) ++ bColons ++ textT (f - 1) ((t.kid 0).kid 1) ++ bClose
    else bParen ++ t.s ++ bSpace ++ textT f (t.kid 0) ++ bClose
termination_by f

theorem textT_int (f : Nat) (n : Int) (s : ByteArray) (ks : List PxT) : textT (f + 1) (.mk 3 n s ks) = numText n := by rw [textT]; exact if_pos rfl
theorem textT_str (f : Nat) (n : Int) (s : ByteArray) (ks : List PxT) : textT (f + 1) (.mk 2 n s ks) = quoteS s := by rw [textT, if_neg (show ¬ (PxT.mk 2 n s ks).kind = 3 from (by decide : ¬ (2 : Int) = 3))]; exact if_pos rfl
theorem textT_unit (f : Nat) (n : Int) (s : ByteArray) (ks : List PxT) : textT (f + 1) (.mk 6 n s ks) = bUnit := by rw [textT, if_neg (show ¬ (PxT.mk 6 n s ks).kind = 3 from (by decide : ¬ (6 : Int) = 3)), if_neg (show ¬ (PxT.mk 6 n s ks).kind = 2 from (by decide : ¬ (6 : Int) = 2))]; exact if_pos rfl
theorem textT_pair (f : Nat) (n : Int) (s : ByteArray) (x y : PxT) : textT (f + 1) (.mk 5 n s [x, y]) = bParen ++ textT f x ++ bComma ++ textT f y ++ bClose := by rw [textT, if_neg (show ¬ (PxT.mk 5 n s [x, y]).kind = 3 from (by decide : ¬ (5 : Int) = 3)), if_neg (show ¬ (PxT.mk 5 n s [x, y]).kind = 2 from (by decide : ¬ (5 : Int) = 2)), if_neg (show ¬ (PxT.mk 5 n s [x, y]).kind = 6 from (by decide : ¬ (5 : Int) = 6))]; exact if_pos rfl
theorem textT_nil (f : Nat) (n : Int) (s : ByteArray) : textT (f + 1) (.mk 4 n s []) = s := by rw [textT, if_neg (show ¬ (PxT.mk 4 n s []).kind = 3 from (by decide : ¬ (4 : Int) = 3)), if_neg (show ¬ (PxT.mk 4 n s []).kind = 2 from (by decide : ¬ (4 : Int) = 2)), if_neg (show ¬ (PxT.mk 4 n s []).kind = 6 from (by decide : ¬ (4 : Int) = 6)), if_neg (show ¬ (PxT.mk 4 n s []).kind = 5 from (by decide : ¬ (4 : Int) = 5))]; exact if_pos rfl
theorem textT_cons (f : Nat) (n n5 : Int) (s s5 : ByteArray) (x y : PxT) (hs : (s.toList == sCons) = true) : textT (f + 2) (.mk 4 n s [.mk 5 n5 s5 [x, y]]) = bParen ++ textT f x ++ bColons ++ textT f y ++ bClose := by rw [textT, if_neg (show ¬ (PxT.mk 4 n s [.mk 5 n5 s5 [x, y]]).kind = 3 from (by decide : ¬ (4 : Int) = 3)), if_neg (show ¬ (PxT.mk 4 n s [.mk 5 n5 s5 [x, y]]).kind = 2 from (by decide : ¬ (4 : Int) = 2)), if_neg (show ¬ (PxT.mk 4 n s [.mk 5 n5 s5 [x, y]]).kind = 6 from (by decide : ¬ (4 : Int) = 6)), if_neg (show ¬ (PxT.mk 4 n s [.mk 5 n5 s5 [x, y]]).kind = 5 from (by decide : ¬ (4 : Int) = 5)), if_neg (show ¬ (PxT.mk 4 n s [.mk 5 n5 s5 [x, y]]).kids.length = 0 from (by decide : ¬ (1 : Nat) = 0))]; exact if_pos hs
theorem textT_con (f : Nat) (n : Int) (s : ByteArray) (x : PxT) (hs : (s.toList == sCons) = false) : textT (f + 1) (.mk 4 n s [x]) = bParen ++ s ++ bSpace ++ textT f x ++ bClose := by rw [textT, if_neg (show ¬ (PxT.mk 4 n s [x]).kind = 3 from (by decide : ¬ (4 : Int) = 3)), if_neg (show ¬ (PxT.mk 4 n s [x]).kind = 2 from (by decide : ¬ (4 : Int) = 2)), if_neg (show ¬ (PxT.mk 4 n s [x]).kind = 6 from (by decide : ¬ (4 : Int) = 6)), if_neg (show ¬ (PxT.mk 4 n s [x]).kind = 5 from (by decide : ¬ (4 : Int) = 5)), if_neg (show ¬ (PxT.mk 4 n s [x]).kids.length = 0 from (by decide : ¬ (1 : Nat) = 0))]; exact if_neg (show ¬ (s.toList == sCons) = true by rw [hs]; decide)

/-- A tree whose nodes have as many children as their kinds want. -/
def TOk : Nat → PxT → Prop
  | 0, _ => False
  | f + 1, t => t.wf ∧ ((t.kind = 3 ∧ t.kids = []) ∨ (t.kind = 2 ∧ t.kids = []) ∨ (t.kind = 6 ∧ t.kids = []) ∨ (t.kind = 5 ∧ ∃ a b, t.kids = [a, b]) ∨ (t.kind = 4 ∧ (t.kids = [] ∨ ∃ a, t.kids = [a] ∧ ((t.s.toList == sCons) = true → a.kind = 5)))) ∧ ∀ k ∈ t.kids, TOk f k

/-- How long a text may be. -/
def wt : Nat → PxT → Nat
  | 0, _ => 0
  | f + 1, t => 4 * t.s.size + 30 + (t.kids.map (wt f)).sum

theorem numText_len (n : Int) : (numText n).size ≤ 20 := by
  unfold numText
  split
  · rename_i h
    have := numS_len n.natAbs (by omega)
    split
    · rw [ByteArray.size_append]
      show 1 + (numS n.natAbs).size ≤ 20
      omega
    · omega
  · exact Nat.zero_le _
theorem quoteS_len (s : ByteArray) : (quoteS s).size ≤ 4 * s.size + 2 := by
  have := quoteL_len s.data.toList
  show (quoteL s.data.toList ++ [34]).toArray.size ≤ _
  have e : s.data.toList.length = s.size := rfl
  simp
  omega
theorem textT_len : ∀ (f : Nat) (t : PxT), TOk f t → (textT f t).size ≤ wt f t := by
  intro f
  induction f using Nat.strongRecOn with
  | _ f ih =>
    intro t ht
    match f, ht with
    | f + 1, ⟨hwf, hk, hkids⟩ =>
      rw [textT]
      unfold wt
      rcases hk with ⟨e, _⟩ | ⟨e, _⟩ | ⟨e, _⟩ | ⟨e, a, b, hab⟩ | ⟨e, hk⟩
      · rw [if_pos e]; have := numText_len t.n; omega
      · rw [if_neg (by omega), if_pos e]; have := quoteS_len t.s; omega
      · rw [if_neg (by omega), if_neg (by omega), if_pos e]; show 2 ≤ _; omega
      · rw [if_neg (by omega), if_neg (by omega), if_neg (by omega), if_pos e]
        have h1 := ih f (by omega) a (hkids a (by rw [hab]; simp))
        have h2 := ih f (by omega) b (hkids b (by rw [hab]; simp))
        simp only [ByteArray.size_append, PxT.kid, hab]
        show 1 + (textT f a).size + 2 + (textT f b).size + 1 ≤ _
        simp
        omega
      · rw [if_neg (by omega), if_neg (by omega), if_neg (by omega), if_neg (by omega)]
        rcases hk with hk | ⟨a, ha, hc⟩
        · rw [if_pos (by rw [hk]; rfl)]; omega
        · rw [if_neg (by rw [ha]; simp)]
          have hta := hkids a (by rw [ha]; simp)
          by_cases hs : (t.s.toList == sCons) = true
          · rw [if_pos hs]
            match f, hta with
            | f + 1, ⟨_, hka, hkk⟩ =>
              have e5 := hc hs
              obtain ⟨g0, g1, hg⟩ : ∃ g0 g1, a.kids = [g0, g1] := by
                rcases hka with ⟨e, _⟩ | ⟨e, _⟩ | ⟨e, _⟩ | ⟨e, h⟩ | ⟨e, _⟩
                · omega
                · omega
                · omega
                · exact h
                · omega
              have h1 := ih f (by omega) g0 (hkk g0 (by rw [hg]; simp))
              have h2 := ih f (by omega) g1 (hkk g1 (by rw [hg]; simp))
              simp only [ByteArray.size_append, PxT.kid, ha]
              show 1 + (textT f ((a.kids).getD 0 _)).size + 4 + (textT f ((a.kids).getD 1 _)).size + 1 ≤ _
              rw [hg]
              simp [wt, hg]
              omega
          · rw [if_neg hs]
            have h1 := ih f (by omega) a hta
            simp only [ByteArray.size_append, PxT.kid, ha]
            show 1 + t.s.size + 1 + (textT f a).size + 1 ≤ _
            simp
            omega

end Go.Proofs.Ytklfepnokidnaaa
