/- Parts of the proof, merged: Quote. -/
import Derived.Test.YtklfepnokidnaaaSc11
/- The text of a string in quotes: plain law; the program's Quote. -/
namespace Go.Proofs.Ytklfepnokidnaaa
open Go.RowKit
set_option linter.unusedVariables false
set_option linter.unusedSimpArgs false
attribute [local go_sem] Ext.cell

def hxI (z : Int) : Int := if z < 10 then 48 + z else 87 + z
def hxB (d : Nat) : UInt8 := UInt8.ofNat (hxI d).toNat
/-- A byte in quotes. -/
def quoteB (b : UInt8) : List UInt8 :=
  if (b.toNat : Int) = 10 then [92, 110] else if (b.toNat : Int) = 34 ∨ (b.toNat : Int) = 92 then [92, b] else if 32 ≤ (b.toNat : Int) ∧ (b.toNat : Int) ≤ 126 then [b] else [92, 120, hxB (b.toNat / 16), hxB (b.toNat % 16)]
def quoteL (l : List UInt8) : List UInt8 := 34 :: l.flatMap quoteB
def quoteS (s : ByteArray) : ByteArray := ⟨(quoteL s.data.toList ++ [34]).toArray⟩
theorem quoteB_len (b : UInt8) : (quoteB b).length ≤ 4 ∧ 0 < (quoteB b).length := by
  unfold quoteB
  split
  · simp
  · split
    · simp
    · split <;> simp
theorem quoteL_len (l : List UInt8) : (quoteL l).length ≤ 4 * l.length + 1 := by
  unfold quoteL
  induction l with
  | nil => simp
  | cons a l ih =>
    have := (quoteB_len a).1
    simp at *
    omega
theorem quoteL_take (s : ByteArray) (k : Nat) (h : k < s.size) : quoteL (s.data.toList.take (k + 1)) = quoteL (s.data.toList.take k) ++ quoteB s[k] := by
  have e : s.data.toList.take (k + 1) = s.data.toList.take k ++ [s[k]] := by
    rw [List.take_succ_eq_append_getElem (by simpa using h)]; rfl
  rw [e]
  unfold quoteL
  simp
theorem hx_range {z : Int} (h0 : 0 ≤ z) (h1 : z ≤ 15) : 48 ≤ hxI z ∧ hxI z ≤ 102 := by unfold hxI; split <;> omega
theorem hxB_val (d : Nat) (h : d ≤ 15) : bval (hxB d) = .int .u8 (hxI d) := by
  have := hx_range (z := d) (by omega) (by omega)
  unfold bval hxB
  rw [UInt8.toNat_ofNat', Nat.mod_eq_of_lt (by omega)]
  congr 1
  omega

set_option maxHeartbeats 1000000 in
theorem hexDigit_c (z : Int) (h0 : 0 ≤ z) (h1 : z ≤ 15) (w : World) : Calls Try.prog 71 #[.int .u8 z] w fun e w' => e = .returned (.int .u8 (hxI z)) ∧ w = w' := by
  by_cases h : z < 10
  · have e : hxI z = 48 + z := by unfold hxI; rw [if_pos h]
    rw [e]
    clear e
    go_enter Try.func71, Try.ntmps71
    go_wp2
    go_returns
    exact ⟨rfl, rfl⟩
  · have e : hxI z = 97 + z - 10 := by unfold hxI; rw [if_neg h]; omega
    rw [e]
    clear e
    go_enter Try.func71, Try.ntmps71
    go_wp2
    go_returns
    exact ⟨rfl, rfl⟩

/-- The bytes that the call owns, as a string. -/
theorem conv_own {w : World} {base g n cap : Nat} {l : List UInt8} (h : w.ownsRow base 5 1 (.slice (some ⟨g, 0, none⟩) n cap) n (l.map bval)) (hn : n = l.length) :
    (convert 67 9 (Value.slice (some ⟨g, 0, none⟩) n cap)).run Try.prog w = .ok (.string ⟨l.toArray⟩) w := by
  subst hn
  refine run_convert_bytes_back (P := Try.prog) w 67 9 5 ⟨g, 0, none⟩ cap l Try.underlying67 Try.underlying5 Try.underlying9 (fun j hj => ?_)
  obtain ⟨g', cap', hv, _, _, _, _, hB⟩ := own_bytes h (by omega)
  obtain ⟨rfl, rfl⟩ : g = g' ∧ cap = cap' := by injection hv with e1 e2 e3; injection e1 with e1; injection e1 with e1; exact ⟨e1, e3⟩
  rw [show (Addr.add ⟨g, 0, none⟩ j) = ⟨g, j, none⟩ by (unfold Addr.add; split <;> simp_all), (hB j hj).1]
  simp [List.getD, List.getElem?_eq_getElem hj]

set_option maxRecDepth 100000 in
set_option maxHeartbeats 8000000 in
theorem impl_Quote_c (s : ByteArray) (hs : s.size ≤ 1099511627776) (w : World) :
    Calls Try.prog 45 #[.string s] w fun e w' => e = .returned (.string (quoteS s)) ∧ Below w.heap.size w w' := by
  obtain ⟨i0, hi0, hz0, hz1, hz2⟩ := info_parts info_u8
  have I := Lib.hid hi0; have I0 := Lib.hid hz0; have I1 := Lib.hid hz1; have I2 := Lib.hid hz2
  clear hi0 hz0 hz1 hz2
  go_enter Try.func45, Try.ntmps45
  go_wp2_with fail
  go_loopw [3, 9] (fun v i wr => ∃ (k n g cap : Nat), k ≤ s.size ∧ i = .int .i64 k ∧ v = .slice (some ⟨g, 0, none⟩) n cap ∧ Hid (n = (quoteL (s.data.toList.take k)).length) ∧ n ≤ 4 * k + 1 ∧ wr.ownsRow w.heap.size 5 1 v n ((quoteL (s.data.toList.take k)).map bval) ∧ Below w.heap.size w wr) (fun _ i _ => s.size - (intOf i).toNat)
  case atStart => exact ⟨0, 1, w.heap.size, 1, by omega, rfl, rfl, rfl, by omega, own_new w #[.int .u8 34] 5 1 1 rfl (by unfold maxLen; omega) _ (Nat.le_refl _), by go_grown⟩
  case round =>
    obtain ⟨k, n, g, cap, hk, rfl, rfl, hn, hnk, O, hw⟩ := hrel
    have hz := hw.size
    by_cases hlt : k < s.size
    · have hst := quoteL_take s k hlt
      have hq4 := quoteB_len s[k]
      have hb0 : (0 : Int) ≤ (s[k].toNat : Int) := by omega
      have hb1 : (s[k].toNat : Int) ≤ 255 := by have := s[k].toNat_lt; omega
      have hqv : (quoteB s[k]).map bval = (if (s[k].toNat : Int) = 10 then [.int .u8 92, .int .u8 110] else if (s[k].toNat : Int) = 34 ∨ (s[k].toNat : Int) = 92 then [.int .u8 92, .int .u8 (s[k].toNat : Int)] else if 32 ≤ (s[k].toNat : Int) ∧ (s[k].toNat : Int) ≤ 126 then [.int .u8 (s[k].toNat : Int)] else [.int .u8 92, .int .u8 120, .int .u8 (hxI ((s[k].toNat : Int) / 16)), .int .u8 (hxI ((s[k].toNat : Int) % 16))]) := by
        have hlt := s[k].toNat_lt
        have e1 := hxB_val (s[k].toNat / 16) (by omega)
        have e2 := hxB_val (s[k].toNat % 16) (by omega)
        unfold quoteB
        split
        · rfl
        · split
          · rfl
          · split
            · rfl
            · simp only [List.map_cons, List.map_nil, e1, e2]
              simp [bval]
      have hfin : ∀ (news : List Value), (quoteB s[k]).map bval = news → (quoteL (s.data.toList.take (k + 1))).map bval = (quoteL (s.data.toList.take k)).map bval ++ news ∧ (quoteL (s.data.toList.take (k + 1))).length = n + news.length := fun news h => by
        rw [hst, List.map_append, h, List.length_append, hn.out, ← h, List.length_map]
        exact ⟨rfl, rfl⟩
      clear hst hq4
      replace O := Lib.hid O
      by_cases h1 : (s[k].toNat : Int) = 10
      · have hnew := Lib.hid (hfin _ (hqv.trans (if_pos h1)))
        clear hqv hfin
        have d1 : ((s[k].toNat : Int) == 10) = true := by rw [h1]; rfl
        clear h1
        go_wp2_with (at_builtin; refine wpList_append_lies _ rfl _ _ _ rfl w.heap.size 5 i0 _ 1 1 Try.underlying67 I.out I0.out I1.out I2.out rfl (by omega) (.slice (some ⟨g, 0, none⟩) n cap) n ((quoteL (s.data.toList.take k)).map bval) rfl (own_below O.out (by go_grown)) ⟨wr.heap.size, 0, none⟩ 2 2 [.int .u8 92, .int .u8 110] rfl rfl (World.news_of_block (cs := #[.int .u8 92, .int .u8 110]) (t := 5) (fr := (0, 0)) (heap_alloc_new' _ _ _ (by simp))) (by intro u hu; simp at hu; (first | (subst hu; rfl) | (rcases hu with rfl | rfl <;> rfl) | (rcases hu with rfl | rfl | rfl | rfl <;> rfl))) (by omega) (by unfold maxLen; omega) (by omega) (by simp; omega) _ rfl ?_; intro g' cap' w2 hown hgrow hat hlt2)
        have hw2 := below_grown2 (wr := wr) hgrow (by go_grown) hw hz O.out
        go_roundw
        case rel => exact ⟨k + 1, n + 2, g', cap', by omega, by go_num, rfl, hnew.out.2.symm, by omega, by rw [hnew.out.1]; exact hown, hw2⟩
        case measure => simp [intOf]; omega
      · by_cases h2 : (s[k].toNat : Int) = 34 ∨ (s[k].toNat : Int) = 92
        · have hnew := Lib.hid (hfin _ (hqv.trans ((if_neg h1).trans (if_pos h2))))
          clear hqv hfin
          have d1 : ((s[k].toNat : Int) == 10) = false := by simpa using h1
          have d2 : ((s[k].toNat : Int) == 34) = true ∨ (((s[k].toNat : Int) == 34) = false ∧ ((s[k].toNat : Int) == 92) = true) := by rcases h2 with h | h <;> simp [h]
          clear h1 h2
          rcases d2 with d2 | ⟨d2, d3⟩
          all_goals
            go_wp2_with (at_builtin; refine wpList_append_lies _ rfl _ _ _ rfl w.heap.size 5 i0 _ 1 1 Try.underlying67 I.out I0.out I1.out I2.out rfl (by omega) (.slice (some ⟨g, 0, none⟩) n cap) n ((quoteL (s.data.toList.take k)).map bval) rfl (own_below O.out (by go_grown)) ⟨wr.heap.size, 0, none⟩ 2 2 [.int .u8 92, .int .u8 (s[k].toNat : Int)] rfl rfl (World.news_of_block (cs := #[.int .u8 92, .int .u8 (s[k].toNat : Int)]) (t := 5) (fr := (0, 0)) (heap_alloc_new' _ _ _ (by simp))) (by intro u hu; simp at hu; (first | (subst hu; rfl) | (rcases hu with rfl | rfl <;> rfl) | (rcases hu with rfl | rfl | rfl | rfl <;> rfl))) (by omega) (by unfold maxLen; omega) (by omega) (by simp; omega) _ rfl ?_; intro g' cap' w2 hown hgrow hat hlt2)
            have hw2 := below_grown2 (wr := wr) hgrow (by go_grown) hw hz O.out
            go_roundw
            case rel => exact ⟨k + 1, n + 2, g', cap', by omega, by go_num, rfl, hnew.out.2.symm, by omega, by rw [hnew.out.1]; exact hown, hw2⟩
            case measure => simp [intOf]; omega
        · by_cases h3 : 32 ≤ (s[k].toNat : Int) ∧ (s[k].toNat : Int) ≤ 126
          · have hnew := Lib.hid (hfin _ (hqv.trans ((if_neg h1).trans ((if_neg h2).trans (if_pos h3)))))
            clear hqv hfin
            have d1 : ((s[k].toNat : Int) == 10) = false := by simpa using h1
            have d2 : ((s[k].toNat : Int) == 34) = false := by simp; omega
            have d3 : ((s[k].toNat : Int) == 92) = false := by simp; omega
            obtain ⟨d4, d5⟩ := h3
            clear h1 h2
            go_wp2_with (at_builtin; refine wpList_append_lies _ rfl _ _ _ rfl w.heap.size 5 i0 _ 1 1 Try.underlying67 I.out I0.out I1.out I2.out rfl (by omega) (.slice (some ⟨g, 0, none⟩) n cap) n ((quoteL (s.data.toList.take k)).map bval) rfl (own_below O.out (by go_grown)) ⟨wr.heap.size, 0, none⟩ 1 1 [.int .u8 (s[k].toNat : Int)] rfl rfl (World.news_of_block (cs := #[.int .u8 (s[k].toNat : Int)]) (t := 5) (fr := (0, 0)) (heap_alloc_new' _ _ _ (by simp))) (by intro u hu; simp at hu; (first | (subst hu; rfl) | (rcases hu with rfl | rfl <;> rfl) | (rcases hu with rfl | rfl | rfl | rfl <;> rfl))) (by omega) (by unfold maxLen; omega) (by omega) (by simp; omega) _ rfl ?_; intro g' cap' w2 hown hgrow hat hlt2)
            have hw2 := below_grown2 (wr := wr) hgrow (by go_grown) hw hz O.out
            go_roundw
            case rel => exact ⟨k + 1, n + 1, g', cap', by omega, by go_num, rfl, hnew.out.2.symm, by omega, by rw [hnew.out.1]; exact hown, hw2⟩
            case measure => simp [intOf]; omega
          · have hnew := Lib.hid (hfin _ (hqv.trans ((if_neg h1).trans ((if_neg h2).trans (if_neg h3)))))
            clear hqv hfin
            have d1 : ((s[k].toNat : Int) == 10) = false := by simpa using h1
            have d2 : ((s[k].toNat : Int) == 34) = false := by simp; omega
            have d3 : ((s[k].toNat : Int) == 92) = false := by simp; omega
            have d4 : (s[k].toNat : Int) < 32 ∨ (32 ≤ (s[k].toNat : Int) ∧ 126 < (s[k].toNat : Int)) := by omega
            clear h1 h2 h3
            rcases d4 with d4 | ⟨d4, d5⟩
            all_goals
              go_wp2_with (first | (at_builtin; refine wpList_append_lies _ rfl _ _ _ rfl w.heap.size 5 i0 _ 1 1 Try.underlying67 I.out I0.out I1.out I2.out rfl (by omega) (.slice (some ⟨g, 0, none⟩) n cap) n ((quoteL (s.data.toList.take k)).map bval) rfl (own_below O.out (by go_grown)) ⟨wr.heap.size, 0, none⟩ 4 4 [.int .u8 92, .int .u8 120, .int .u8 (hxI ((s[k].toNat : Int) / 16)), .int .u8 (hxI ((s[k].toNat : Int) % 16))] rfl rfl (World.news_of_block (cs := #[.int .u8 92, .int .u8 120, .int .u8 (hxI ((s[k].toNat : Int) / 16)), .int .u8 (hxI ((s[k].toNat : Int) % 16))]) (t := 5) (fr := (0, 0)) (heap_alloc_new' _ _ _ (by simp))) (by intro u hu; simp at hu; (first | (subst hu; rfl) | (rcases hu with rfl | rfl <;> rfl) | (rcases hu with rfl | rfl | rfl | rfl <;> rfl))) (by omega) (by unfold maxLen; omega) (by omega) (by simp; omega) _ rfl ?_; intro g' cap' w2 hown hgrow hat hlt2) | (go_at_call 71; ((with_reducible refine (hexDigit_c _ (by omega) (by omega) _).mono ?_); rintro e w1 ⟨rfl, rfl⟩)))
              have hw2 := below_grown2 (wr := wr) hgrow (by go_grown) hw hz O.out
              go_roundw
              case rel => exact ⟨k + 1, n + 4, g', cap', by omega, by go_num, rfl, hnew.out.2.symm, by omega, by rw [hnew.out.1]; exact hown, hw2⟩
              case measure => simp [intOf]; omega
    · obtain rfl : k = s.size := by omega
      have hfull : s.data.toList.take s.size = s.data.toList := allW_full s
      rw [hfull] at hn O
      have hq : quoteS s = ⟨(quoteL s.data.toList ++ [34]).toArray⟩ := rfl
      replace O := Lib.hid O
      replace hq := Lib.hid hq
      clear hfull
      go_wp2_with (at_builtin; refine wpList_append_lies _ rfl _ _ _ rfl w.heap.size 5 i0 _ 1 1 Try.underlying67 I.out I0.out I1.out I2.out rfl (by omega) (.slice (some ⟨g, 0, none⟩) n cap) n ((quoteL s.data.toList).map bval) rfl (own_below O.out (by go_grown)) ⟨wr.heap.size, 0, none⟩ 1 1 [.int .u8 34] rfl rfl (World.news_of_block (cs := #[.int .u8 34]) (t := 5) (fr := (0, 0)) (heap_alloc_new' _ _ _ (by simp))) (by intro u hu; simp at hu; (first | (subst hu; rfl) | (rcases hu with rfl | rfl <;> rfl) | (rcases hu with rfl | rfl | rfl | rfl <;> rfl))) (by omega) (by unfold maxLen; omega) (by omega) (by simp; omega) _ rfl ?_; intro g' cap' w2 hown hgrow hat hlt2; have hrun := conv_own (l := quoteL s.data.toList ++ [34]) (by rw [List.map_append]; exact hown) (by rw [List.length_append, hn.out]; rfl))
      have hw2 := below_grown2 (wr := wr) hgrow (by go_grown) hw hz O.out
      go_returns
      exact ⟨by rw [hq.out]; rfl, hw2⟩

end Go.Proofs.Ytklfepnokidnaaa
