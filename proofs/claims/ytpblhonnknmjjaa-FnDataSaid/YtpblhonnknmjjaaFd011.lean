/- Parts of the proof, merged: Unq, Unq2. -/
import Derived.IntWalk
import Derived.Deep.RegionLaw
import Derived.Test.YtpblhonnknmjjaaFd010
/- Unquote of both. -/
namespace Go.Proofs.Ytpblhonnknmjjaa
open Go.RowKit
set_option linter.unusedVariables false
set_option linter.unusedSimpArgs false
attribute [local go_sem] Ext.cell

/-- Behind k bytes of the body the bytes o are laid: if the text is a right one, these are its first. -/
def US (bl : List UInt8) (q : Option ByteArray) (k : Nat) (o : List UInt8) : Prop := ∀ t, q = some t → ∃ j, o = t.data.toList.take j ∧ bl.drop k = (t.data.toList.drop j).flatMap quoteB
theorem US.none {bl : List UInt8} {q : Option ByteArray} (h : q = Option.none) (k : Nat) (o : List UInt8) : US bl q k o := fun t ht => by rw [h] at ht; cases ht
theorem US.next {bl : List UInt8} {q : Option ByteArray} {k : Nat} {o : List UInt8} (h : US bl q k o) (hk : k < bl.length) : ∀ t, q = some t → ∃ j b rest, bl.drop k = quoteB b ++ rest ∧ o ++ [b] = t.data.toList.take (j + 1) ∧ rest = (t.data.toList.drop (j + 1)).flatMap quoteB := by
  intro t ht
  obtain ⟨j, h1, h2⟩ := h t ht
  have hj : j < t.data.toList.length := by
    rcases Nat.lt_or_ge j t.data.toList.length with h3 | h3
    · exact h3
    · rw [List.drop_of_length_le h3] at h2
      have := congrArg List.length h2
      simp at this
      omega
  refine ⟨j, t.data.toList[j], (t.data.toList.drop (j + 1)).flatMap quoteB, ?_, ?_, rfl⟩
  · rw [h2, List.drop_eq_getElem_cons hj, List.flatMap_cons]
  · rw [List.take_succ_eq_append_getElem hj, ← h1]
theorem drop_two {bl : List UInt8} {k : Nat} (h : k + 1 < bl.length) : bl.drop k = bl[k] :: bl[k + 1] :: bl.drop (k + 2) := by
  rw [List.drop_eq_getElem_cons (by omega : k < bl.length), List.drop_eq_getElem_cons h]
theorem us_plain {bl : List UInt8} {q : Option ByteArray} {k : Nat} {o : List UInt8} (h : US bl q k o) (hk : k < bl.length) (hb : bl[k] ≠ 92) : US bl q (k + 1) (o ++ [bl[k]]) := by
  intro t ht
  obtain ⟨j, b, rest, h1, h2, h3⟩ := h.next hk t ht
  rw [List.drop_eq_getElem_cons hk] at h1
  rcases quoteB_ways b with ⟨_, e⟩ | ⟨_, e⟩ | ⟨_, e⟩ | e
  all_goals rw [e] at h1; simp only [List.cons_append, List.nil_append, List.cons.injEq] at h1
  · exact absurd h1.1 hb
  · exact absurd h1.1 hb
  · exact ⟨j + 1, by rw [h1.1]; exact h2, by rw [h1.2, h3]⟩
  · exact absurd h1.1 hb
theorem us_last {bl : List UInt8} {q : Option ByteArray} {k : Nat} {o : List UInt8} (h : US bl q k o) (hk : k < bl.length) (hb : bl[k] = 92) (hl : bl.length ≤ k + 1) : q = none := by
  cases hq : q with
  | none => rfl
  | some t =>
    exfalso
    obtain ⟨j, b, rest, h1, h2, h3⟩ := h.next hk t hq
    rw [List.drop_eq_getElem_cons hk, List.drop_of_length_le hl] at h1
    rcases quoteB_ways b with ⟨_, e⟩ | ⟨_, e⟩ | ⟨h4, e⟩ | e
    all_goals rw [e] at h1; simp only [List.cons_append, List.nil_append, List.cons.injEq] at h1
    · exact absurd h1.2 (by simp)
    · exact absurd h1.2 (by simp)
    · exact h4.2.2 (h1.1.symm.trans hb)
    · exact absurd h1.2 (by simp)
theorem us_n {bl : List UInt8} {q : Option ByteArray} {k : Nat} {o : List UInt8} (h : US bl q k o) (hk : k + 1 < bl.length) (hb : bl[k] = 92) (hc : bl[k + 1] = 110) : US bl q (k + 2) (o ++ [10]) := by
  intro t ht
  obtain ⟨j, b, rest, h1, h2, h3⟩ := h.next (by omega) t ht
  rw [drop_two hk, hb, hc] at h1
  rcases quoteB_ways b with ⟨h4, e⟩ | ⟨h4, e⟩ | ⟨h4, e⟩ | e
  all_goals rw [e] at h1; simp only [List.cons_append, List.nil_append, List.cons.injEq] at h1
  · exact ⟨j + 1, by rw [← h4]; exact h2, by rw [h1.2.2, h3]⟩
  · exfalso; rw [← h1.2.1] at h4; revert h4; decide
  · exact absurd h1.1.symm h4.2.2
  · exfalso; have := h1.2.1; revert this; decide
theorem us_d {bl : List UInt8} {q : Option ByteArray} {k : Nat} {o : List UInt8} (h : US bl q k o) (hk : k + 1 < bl.length) (hb : bl[k] = 92) (hc : bl[k + 1] ≠ 110) (hx : bl[k + 1] ≠ 120 ∨ bl.length ≤ k + 3) : US bl q (k + 2) (o ++ [bl[k + 1]]) := by
  intro t ht
  obtain ⟨j, b, rest, h1, h2, h3⟩ := h.next (by omega) t ht
  have hl : bl.length - k = (bl.drop k).length := by simp
  have h1' := h1
  rw [drop_two hk, hb] at h1
  rcases quoteB_ways b with ⟨h4, e⟩ | ⟨h4, e⟩ | ⟨h4, e⟩ | e
  all_goals rw [e] at h1; simp only [List.cons_append, List.nil_append, List.cons.injEq] at h1
  · exact absurd h1.2.1 hc
  · exact ⟨j + 1, by rw [h1.2.1]; exact h2, by rw [h1.2.2, h3]⟩
  · exact absurd h1.1.symm h4.2.2
  · exfalso
    rcases hx with hx | hx
    · exact hx h1.2.1
    · rw [h1', e] at hl
      simp at hl
      omega
theorem us_x {bl : List UInt8} {q : Option ByteArray} {k : Nat} {o : List UInt8} {v : UInt8} (h : US bl q k o) (hk : k + 3 < bl.length) (hb : bl[k]'(by omega) = 92) (hc : bl[k + 1]'(by omega) = 120) (hv : ∀ d1 d2, d1 ≤ 15 → d2 ≤ 15 → bl[k + 2]'(by omega) = hxB d1 → bl[k + 3] = hxB d2 → v.toNat = 16 * d1 + d2) : US bl q (k + 4) (o ++ [v]) := by
  intro t ht
  obtain ⟨j, b, rest, h1, h2, h3⟩ := h.next (by omega) t ht
  have hlt := b.toNat_lt
  rw [drop_two (by omega), drop_two (k := k + 2) (by omega), hb, hc] at h1
  rcases quoteB_ways b with ⟨h4, e⟩ | ⟨h4, e⟩ | ⟨h4, e⟩ | e
  all_goals rw [e] at h1; simp only [List.cons_append, List.nil_append, List.cons.injEq] at h1
  · exfalso; have := h1.2.1; revert this; decide
  · exfalso; rw [← h1.2.1] at h4; revert h4; decide
  · exact absurd h1.1.symm h4.2.2
  · have h5 := hv (b.toNat / 16) (b.toNat % 16) (by omega) (by omega) h1.2.2.1 h1.2.2.2.1
    have h6 : v = b := UInt8.toNat_inj.1 (by omega)
    exact ⟨j + 1, by rw [h6]; exact h2, by rw [h1.2.2.2.2, h3]⟩
theorem us_end {bl : List UInt8} {q : Option ByteArray} {k : Nat} {o : List UInt8} (h : US bl q k o) (hk : bl.length ≤ k) : ∀ t, q = some t → o = t.data.toList := by
  intro t ht
  obtain ⟨j, h1, h2⟩ := h t ht
  rw [List.drop_of_length_le hk] at h2
  rcases Nat.lt_or_ge j t.data.toList.length with h3 | h3
  · exfalso
    rw [List.drop_eq_getElem_cons h3, List.flatMap_cons] at h2
    have := congrArg List.length h2
    have h4 := (quoteB_len t.data.toList[j]).2
    simp at this
    rw [Array.getElem_toList] at h4
    omega
  · rw [h1, List.take_of_length_le h3]
theorem unquote_some {l : List UInt8} {t : ByteArray} : unquote l = some t ↔ (quoteS t).data.toList = l := by
  constructor
  · intro h
    unfold unquote at h
    split at h
    · rename_i h0
      injection h with h
      rw [← h]
      exact h0.choose_spec
    · cases h
  · rintro rfl
    exact unquote_quote t
/-- Behind the last byte: the text is written again and compared. -/
theorem us_done {s : ByteArray} {o : List UInt8} (h : ∀ t, unquote s.data.toList = some t → o = t.data.toList) :
    ((quoteS ⟨o.toArray⟩).toList == s.toList) = true ∧ unquote s.data.toList = some ⟨o.toArray⟩ ∨ ((quoteS ⟨o.toArray⟩).toList == s.toList) = false ∧ unquote s.data.toList = none := by
  cases e : ((quoteS ⟨o.toArray⟩).toList == s.toList) with
  | true =>
    have e1 : quoteS ⟨o.toArray⟩ = s := (toList_eq _ _).1 (eq_of_beq e)
    exact .inl ⟨rfl, unquote_some.2 (by rw [e1])⟩
  | false =>
    refine .inr ⟨rfl, ?_⟩
    cases hq : unquote s.data.toList with
    | none => rfl
    | some t =>
      exfalso
      have h1 := h t hq
      have h2 := unquote_some.1 hq
      have h3 : (⟨o.toArray⟩ : ByteArray) = t := ByteArray.ext (Array.ext' (by rw [h1]))
      have h4 : quoteS t = s := ByteArray.ext (Array.ext' h2)
      rw [h3, h4] at e
      simp at e
theorem us_start {l : List UInt8} (bl : List UInt8) (hb : bl = (l.drop 1).take (l.length - 2)) : US bl (unquote l) 0 [] := by
  intro t ht
  have h1 := unquote_some.1 ht
  rw [quoteS_list] at h1
  refine ⟨0, rfl, ?_⟩
  rw [List.drop_zero, List.drop_zero, hb, ← h1]
  simp
theorem uq_short {l : List UInt8} (h : l.length < 2) : unquote l = none := by
  cases hq : unquote l with
  | none => rfl
  | some t =>
    have h1 := unquote_some.1 hq
    rw [quoteS_list] at h1
    have := congrArg List.length h1
    simp at this
    omega
def uqV : Option ByteArray → Value
  | some t => .tuple #[.string t, .bool true]
  | none => .tuple #[.string ⟨#[]⟩, .bool false]

def hvI (z : Int) : Int := if digB z then z - 48 else ((z - 97) % 256 + 10) % 256
theorem hexValue_c (z : Int) (h0 : 0 ≤ z) (h1 : z ≤ 255) (w : World) : Calls Try.prog 90 #[.int .u8 z] w fun e w' => e = .returned (.int .u8 (hvI z)) ∧ w = w' := by
  have c1 := isDigit_c z w
  unfold hvI
  cases hd : digB z with
  | true =>
    rw [hd] at c1
    unfold digB at hd
    simp at hd
    obtain ⟨h2, h3⟩ := hd
    go_enter Try.func90, Try.ntmps90
    go_wp2_with (go_at_call 55; ((with_reducible refine (c1).mono ?_); rintro e w1 ⟨rfl, rfl⟩))
    go_returns
    exact ⟨rfl, rfl⟩
  | false =>
    rw [hd] at c1
    clear hd
    go_enter Try.func90, Try.ntmps90
    go_wp2_with (go_at_call 55; ((with_reducible refine (c1).mono ?_); rintro e w1 ⟨rfl, rfl⟩))
    go_returns
    exact ⟨rfl, rfl⟩
theorem own_snoc {w : World} {base : Nat} {v : Value} {n : Nat} {o : List UInt8} {z : Int} {b : UInt8} (h : w.ownsRow base 5 1 v n (o.map bval ++ [.int .u8 z])) (hb : z = b.toNat) : w.ownsRow base 5 1 v n ((o ++ [b]).map bval) := by
  subst hb
  rw [List.map_append]
  exact h
theorem hvI_hx {d : Nat} (h : d ≤ 15) : hvI (hxB d).toNat = d := by
  have e := hxB_toNat h
  rw [e]
  unfold hvI digB
  by_cases hd : d < 10
  · rw [if_pos hd, if_pos (by simp; omega)]; omega
  · rw [if_neg hd, if_neg (by simp; omega)]; omega
set_option maxRecDepth 100000 in
set_option maxHeartbeats 8000000 in
theorem impl_Unquote_c (s : ByteArray) (hs : s.size ≤ 1099511627776) (w : World) :
    Calls Try.prog 80 #[.string s] w fun e w' => e = .returned (uqV (unquote s.data.toList)) ∧ Below w.heap.size w w' := by
  by_cases h2 : s.size < 2
  · rw [uq_short (show s.data.toList.length < 2 from h2)]
    have hd : decide ((s.size : Int) < 2) = true := decide_eq_true (by omega)
    go_enter Try.func80, Try.ntmps80
    go_wp2_with fail
    go_returns
    exact ⟨rfl, Below.refl _ _⟩
  · have hd : decide ((s.size : Int) < 2) = false := decide_eq_false (by omega)
    have h2' : 2 ≤ s.size := by omega
    have hBsz : (s.extract 1 (s.size - 1)).size = s.size - 2 := by rw [ByteArray.size_extract]; omega
    have hBl : (s.extract 1 (s.size - 1)).data.toList = (s.data.toList.drop 1).take (s.data.toList.length - 2) := by
      rw [ByteArray.data_extract, Array.toList_extract]
      show ((s.data.toList.drop 1).take (s.size - 1 - 1)) = (s.data.toList.drop 1).take (s.size - 2)
      rw [show s.size - 1 - 1 = s.size - 2 by omega]
    have hst := us_start _ hBl
    have hdone := fun o => us_done (s := s) (o := o)
    have hqs := fun (o : List UInt8) (ho : o.length ≤ 1099511627776) W => impl_Quote_c ⟨o.toArray⟩ (by show o.toArray.size ≤ _; simpa using ho) W
    obtain ⟨iU, hi0, hz0, hz1, hz2⟩ := info_parts info_u8; have IU := Lib.hid hi0; have IU0 := Lib.hid hz0; have IU1 := Lib.hid hz1; have IU2 := Lib.hid hz2; clear hi0 hz0 hz1 hz2
    go_enter Try.func80, Try.ntmps80
    go_upto_region 5 with fail
    generalize s.extract 1 (s.size - 1) = B at *
    clear hBl
    have hB40 : B.size ≤ 1099511627776 := by omega
    replace hBsz := Lib.hid hBsz
    replace hdone := Lib.hid hdone; replace hqs := Lib.hid hqs
    generalize hq : unquote s.data.toList = q at *
    replace hq := Lib.hid hq
    have hO0 : (w.alloc (.cells #[] 5)).ownsRow w.heap.size 5 1 (.slice (some ⟨w.heap.size, 0, none⟩) 0 0) 0 [] := own_empty_at (heap_alloc_new w _) (Nat.le_refl _)
    have hw0 : Below w.heap.size w (w.alloc (.cells #[] 5)) := by go_grown
    go_wp2_with fail
    go_loopw [5, 6] (fun v i wr => ∃ (k n g cap : Nat) (o : List UInt8), k ≤ B.size ∧ i = .int .i64 k ∧ v = .slice (some ⟨g, 0, none⟩) n cap ∧ Hid (n = o.length) ∧ n ≤ k ∧ wr.ownsRow w.heap.size 5 1 v n (o.map bval) ∧ Hid (US B.data.toList q k o) ∧ Below w.heap.size w wr) (fun _ i _ => B.size - (intOf i).toNat)
    case atStart => exact ⟨0, 0, w.heap.size, 0, [], by omega, rfl, rfl, rfl, by omega, hO0, hst, hw0⟩
    case round =>
      clear hO0 hw0
      obtain ⟨k, n, g, cap, o, hk, rfl, rfl, hn, hnk, O, hU, hw⟩ := hrel
      have hz := hw.size
      by_cases hlt : k < B.size
      · have hb := byte_at hlt
        have hb0 : (B[k].toNat : Int) ≤ 255 := by have := B[k].toNat_lt; omega
        have ne : ∀ (x c : UInt8), (x.toNat : Int) ≠ (c.toNat : Int) → x ≠ c := fun x c h e => h (by rw [e])
        have eq : ∀ (x c : UInt8), (x.toNat : Int) = (c.toNat : Int) → x = c := fun x c h => UInt8.toNat_inj.1 (by omega)
        replace O := Lib.hid O
        by_cases h92 : (B[k].toNat : Int) = 92
        · have d1 : ((B[k].toNat : Int) != 92) = false := by rw [h92]; rfl
          have e92 : B.data.toList[k]'hlt = 92 := by rw [hb]; exact eq _ _ h92
          by_cases hl1 : B.size ≤ k + 1
          · have d2 : decide ((B.size : Int) ≤ (k : Int) + 1) = true := decide_eq_true (by omega)
            have hUn : Hid (US B.data.toList q (k + 1) (o ++ [B[k]])) := US.none (us_last hU.out hlt e92 hl1) _ _
            clear e92 h92
            go_wp2_with ((at_builtin; refine wpList_append_lies _ rfl _ _ _ rfl (w.heap.size) 5 iU _ 1 1 Try.underlying22 IU.out IU0.out IU1.out IU2.out rfl (by omega) (.slice (some ⟨g, 0, none⟩) n cap) (n) (o.map bval) rfl (own_below O.out (by go_grown)) ⟨wr.heap.size, 0, none⟩ 1 1 [.int .u8 (B[k].toNat : Int)] rfl rfl (World.news_of_block (cs := #[.int .u8 (B[k].toNat : Int)]) (t := 5) (fr := (0, 0)) (heap_alloc_new' _ _ _ (by simp))) (by intro u hu; simp at hu; (first | (subst hu; rfl) | (rcases hu with rfl | rfl | rfl | rfl <;> rfl) | (rcases hu with rfl | rfl | rfl | rfl | rfl | rfl | rfl | rfl | rfl <;> rfl))) (by omega) (by unfold maxLen; omega) (by omega) (by simp; omega) _ rfl ?_; intro g' cap' w2 hown hgrow hat hlt2))
            have hw2 := below_grown2 (wr := wr) hgrow (by go_grown) hw hz O.out
            go_roundw
            case rel => exact ⟨k + 1, n + 1, g', cap', _, by omega, by go_num, rfl, by show _ = _; rw [List.length_append, ← hn.out]; rfl, by omega, own_snoc hown rfl, hUn, hw2⟩
            case measure => simp [intOf]; omega
          · have d2 : decide ((B.size : Int) ≤ (k : Int) + 1) = false := decide_eq_false (by omega)
            have hlt1 : k + 1 < B.size := by omega
            have hb1 := byte_at hlt1
            have hb10 : (B[k + 1].toNat : Int) ≤ 255 := by have := B[k + 1].toNat_lt; omega
            by_cases h110 : (B[k + 1].toNat : Int) = 110
            · have d3 : ((B[k + 1].toNat : Int) == 110) = true := by rw [h110]; rfl
              have hUn : Hid (US B.data.toList q (k + 2) (o ++ [10])) := us_n hU.out hlt1 e92 (by rw [hb1]; exact eq _ _ h110)
              clear e92 h92 h110
              go_wp2_with ((at_builtin; refine wpList_append_lies _ rfl _ _ _ rfl (w.heap.size) 5 iU _ 1 1 Try.underlying22 IU.out IU0.out IU1.out IU2.out rfl (by omega) (.slice (some ⟨g, 0, none⟩) n cap) (n) (o.map bval) rfl (own_below O.out (by go_grown)) ⟨wr.heap.size, 0, none⟩ 1 1 [.int .u8 10] rfl rfl (World.news_of_block (cs := #[.int .u8 10]) (t := 5) (fr := (0, 0)) (heap_alloc_new' _ _ _ (by simp))) (by intro u hu; simp at hu; (first | (subst hu; rfl) | (rcases hu with rfl | rfl | rfl | rfl <;> rfl) | (rcases hu with rfl | rfl | rfl | rfl | rfl | rfl | rfl | rfl | rfl <;> rfl))) (by omega) (by unfold maxLen; omega) (by omega) (by simp; omega) _ rfl ?_; intro g' cap' w2 hown hgrow hat hlt2))
              have hw2 := below_grown2 (wr := wr) hgrow (by go_grown) hw hz O.out
              go_roundw
              case rel => exact ⟨k + 2, n + 1, g', cap', _, by omega, by go_num, rfl, by show _ = _; rw [List.length_append, ← hn.out]; rfl, by omega, own_snoc (b := 10) hown rfl, hUn, hw2⟩
              case measure => simp [intOf]; omega
            · have d3 : ((B[k + 1].toNat : Int) == 110) = false := by rw [beq_eq_false_iff_ne]; exact h110
              by_cases h120 : (B[k + 1].toNat : Int) = 120 ∧ k + 3 < B.size
              · obtain ⟨h120, hk3⟩ := h120
                have d4 : ((B[k + 1].toNat : Int) == 120) = true := by rw [h120]; rfl
                have d5 : decide ((k : Int) + 1 + 2 < (B.size : Int)) = true := decide_eq_true (by omega)
                have hb2 := byte_at (show k + 2 < B.size by omega)
                have hb3 := byte_at hk3
                have e1 : (B[k + 2].toNat : Int) ≤ 255 := by have := B[k + 2].toNat_lt; omega
                have e2 : (B[k + 3].toNat : Int) ≤ 255 := by have := B[k + 3].toNat_lt; omega
                obtain ⟨z, hzd⟩ : ∃ z : Int, z = (hvI B[k + 2].toNat * 16 % 256 + hvI B[k + 3].toNat) % 256 := ⟨_, rfl⟩
                have hUn : Hid (US B.data.toList q (k + 4) (o ++ [UInt8.ofNat z.toNat])) := by
                  refine us_x hU.out hk3 e92 (by rw [hb1]; exact eq _ _ h120) fun x1 x2 hx1 hx2 q1 q2 => ?_
                  rw [hb2] at q1; rw [hb3] at q2
                  rw [q1, q2] at hzd
                  have v1 := hvI_hx hx1
                  have v2 := hvI_hx hx2
                  rw [v1, v2] at hzd
                  rw [UInt8.toNat_ofNat', Nat.mod_eq_of_lt (by omega)]
                  omega
                clear h120 e92 h92 h110
                have p1 : IntKind.i64.wrap ((k : Int) + 1 + 1) = ((k + 2 : Nat) : Int) := by rw [IntWalk.i64_in _ (by omega)]; omega
                have p2 : IntKind.i64.wrap ((k : Int) + 1 + 2) = ((k + 3 : Nat) : Int) := by rw [IntWalk.i64_in _ (by omega)]; omega
                have hk2 : k + 2 < B.size := by omega
                have q1 : (0 : Int) ≤ (k : Int) + 2 := by omega
                have q2 : (k : Int) + 2 < (B.size : Int) := by omega
                have q3 : (0 : Int) ≤ (k : Int) + 3 := by omega
                have q4 : (k : Int) + 3 < (B.size : Int) := by omega
                have q5 : ((k : Int) + 2).toNat = k + 2 := by omega
                have q6 : ((k : Int) + 3).toNat = k + 3 := by omega
                go_upto_region 15 with fail
                have hzw : IntKind.u8.wrap (IntKind.u8.wrap (hvI B[k + 2].toNat * 16) + hvI B[k + 3].toNat) = z := by rw [hzd, IntKind.wrap_u8, IntKind.wrap_u8]
                have hz0 : 0 ≤ z ∧ z ≤ 255 := by omega
                replace hzd := Lib.hid hzd
                go_region_law ((first | (go_simp; go_at_call 90; (with_reducible refine (hexValue_c _ (by omega) (by omega) _).mono ?_); rintro e w1 ⟨rfl, rfl⟩) | (refine step_append_lies _ (by rfl) _ _ _ (by rfl) (w.heap.size) 5 iU _ 1 1 Try.underlying22 IU.out IU0.out IU1.out IU2.out rfl (by omega) _ (n) (o.map bval) (by rfl) (own_below O.out (by go_grown)) ⟨wr.heap.size, 0, none⟩ 1 1 [.int .u8 z] (by rfl) (by rfl) (World.news_of_block (cs := #[.int .u8 z]) (t := 5) (fr := (0, 0)) (heap_alloc_new' _ _ _ (by simp))) (by intro u hu; simp at hu; (first | (subst hu; rfl) | (rcases hu with rfl | rfl | rfl | rfl <;> rfl))) (by omega) (by unfold maxLen; omega) (by omega) (by simp; omega) _ rfl ?_; intro g' cap' w2 hown hgrow hat hlt2)))
                all_goals
                  have hw2 := below_grown2 (wr := wr) hgrow (by go_grown) hw hz O.out
                  replace hown := own_snoc (b := UInt8.ofNat z.toNat) hown (by rw [UInt8.toNat_ofNat', Nat.mod_eq_of_lt (by omega)]; omega)
                  clear hzw
                  go_wp2_with fail
                  go_roundw
                  case rel => exact ⟨k + 4, n + 1, g', cap', _, by omega, by go_num, rfl, by show _ = _; rw [List.length_append, ← hn.out]; rfl, by omega, hown, hUn, hw2⟩
                  case measure => simp [intOf]; omega
              · have hx : (B.data.toList[k + 1]'hlt1 ≠ 120 ∨ B.data.toList.length ≤ k + 3) := by
                  rcases Nat.lt_or_ge (k + 3) B.size with h | h
                  · exact .inl (by rw [hb1]; exact ne _ _ (fun e => h120 ⟨e, h⟩))
                  · exact .inr h
                have hUn : Hid (US B.data.toList q (k + 2) (o ++ [B[k + 1]])) := by have h := us_d hU.out hlt1 e92 (by rw [hb1]; exact ne _ _ h110) hx; rw [hb1] at h; exact h
                have hways : ((B[k + 1].toNat : Int) == 120) = false ∨ (((B[k + 1].toNat : Int) == 120) = true ∧ decide ((k : Int) + 1 + 2 < (B.size : Int)) = false) := by
                  by_cases h : (B[k + 1].toNat : Int) = 120
                  · exact .inr ⟨by rw [h]; rfl, decide_eq_false fun h3 => h120 ⟨h, by omega⟩⟩
                  · exact .inl (by rw [beq_eq_false_iff_ne]; exact h)
                clear e92 h92 h110 h120 hx
                rcases hways with d4 | ⟨d4, d5⟩
                all_goals
                  go_wp2_with ((at_builtin; refine wpList_append_lies _ rfl _ _ _ rfl (w.heap.size) 5 iU _ 1 1 Try.underlying22 IU.out IU0.out IU1.out IU2.out rfl (by omega) (.slice (some ⟨g, 0, none⟩) n cap) (n) (o.map bval) rfl (own_below O.out (by go_grown)) ⟨wr.heap.size, 0, none⟩ 1 1 [.int .u8 (B[k + 1].toNat : Int)] rfl rfl (World.news_of_block (cs := #[.int .u8 (B[k + 1].toNat : Int)]) (t := 5) (fr := (0, 0)) (heap_alloc_new' _ _ _ (by simp))) (by intro u hu; simp at hu; (first | (subst hu; rfl) | (rcases hu with rfl | rfl | rfl | rfl <;> rfl) | (rcases hu with rfl | rfl | rfl | rfl | rfl | rfl | rfl | rfl | rfl <;> rfl))) (by omega) (by unfold maxLen; omega) (by omega) (by simp; omega) _ rfl ?_; intro g' cap' w2 hown hgrow hat hlt2))
                  have hw2 := below_grown2 (wr := wr) hgrow (by go_grown) hw hz O.out
                  go_roundw
                  case rel => exact ⟨k + 2, n + 1, g', cap', _, by omega, by go_num, rfl, by show _ = _; rw [List.length_append, ← hn.out]; rfl, by omega, own_snoc hown rfl, hUn, hw2⟩
                  case measure => simp [intOf]; omega
        · have d1 : ((B[k].toNat : Int) != 92) = true := by rw [bne_iff_ne]; exact h92
          have hUn : Hid (US B.data.toList q (k + 1) (o ++ [B[k]])) := by have h := us_plain hU.out hlt (by rw [hb]; exact ne _ _ h92); rw [hb] at h; exact h
          clear h92
          go_wp2_with ((at_builtin; refine wpList_append_lies _ rfl _ _ _ rfl (w.heap.size) 5 iU _ 1 1 Try.underlying22 IU.out IU0.out IU1.out IU2.out rfl (by omega) (.slice (some ⟨g, 0, none⟩) n cap) (n) (o.map bval) rfl (own_below O.out (by go_grown)) ⟨wr.heap.size, 0, none⟩ 1 1 [.int .u8 (B[k].toNat : Int)] rfl rfl (World.news_of_block (cs := #[.int .u8 (B[k].toNat : Int)]) (t := 5) (fr := (0, 0)) (heap_alloc_new' _ _ _ (by simp))) (by intro u hu; simp at hu; (first | (subst hu; rfl) | (rcases hu with rfl | rfl | rfl | rfl <;> rfl) | (rcases hu with rfl | rfl | rfl | rfl | rfl | rfl | rfl | rfl | rfl <;> rfl))) (by omega) (by unfold maxLen; omega) (by omega) (by simp; omega) _ rfl ?_; intro g' cap' w2 hown hgrow hat hlt2))
          have hw2 := below_grown2 (wr := wr) hgrow (by go_grown) hw hz O.out
          go_roundw
          case rel => exact ⟨k + 1, n + 1, g', cap', _, by omega, by go_num, rfl, by show _ = _; rw [List.length_append, ← hn.out]; rfl, by omega, own_snoc hown rfl, hUn, hw2⟩
          case measure => simp [intOf]; omega
      · obtain rfl : k = B.size := by omega
        have hu := hdone.out o (us_end (bl := B.data.toList) (k := B.size) hU.out (Nat.le_refl _))
        have hqq := fun W => hqs.out o (by have := hn.out; omega) W
        have hrun1 := conv_own O hn.out
        generalize quoteS ⟨o.toArray⟩ = qs at *
        replace O := Lib.hid O
        rcases hu with ⟨he, rfl⟩ | ⟨he, rfl⟩
        · go_wp2_with (go_at_call 49; ((with_reducible refine (hqq _).mono ?_); rintro e w1 ⟨rfl, hb⟩; have hrun2 := conv_own (own_below O.out hb) hn.out))
          go_returns
          exact ⟨by rw [hq.out]; rfl, hw.trans (hb.mono hz)⟩
        · go_wp2_with (go_at_call 49; ((with_reducible refine (hqq _).mono ?_); rintro e w1 ⟨rfl, hb⟩))
          go_returns
          exact ⟨by rw [hq.out]; rfl, hw.trans (hb.mono hz)⟩
end Go.Proofs.Ytpblhonnknmjjaa

/- The reference's Unquote. -/
namespace Go.Proofs.Ytpblhonnknmjjaa
open Go.RowKit
set_option linter.unusedVariables false
set_option linter.unusedSimpArgs false
attribute [local go_sem] Ext.cell

/-- The value of a hexadecimal digit, 0 of what is none. -/
def hfI (z : Int) : Int := if 48 ≤ z ∧ z ≤ 57 then z - 48 else if 97 ≤ z ∧ z ≤ 102 then z - 87 else 0
theorem hfI_hx {d : Nat} (h : d ≤ 15) : hfI (hxB d).toNat = d := by
  have e := hxB_toNat h
  rw [e]
  unfold hfI
  by_cases hd : d < 10
  · rw [if_pos hd, if_pos (by omega)]; omega
  · rw [if_neg hd, if_neg (by omega), if_pos (by omega)]; omega
theorem hfI_range (z : Int) : 0 ≤ hfI z ∧ hfI z ≤ 15 := by unfold hfI; split <;> (try split) <;> omega
theorem hfI_at {z : Int} {d : Int} (h0 : 0 ≤ d) (h1 : d ≤ 15) (h : hxI d = z) : hfI z = d := by
  unfold hxI at h
  unfold hfI
  split at h <;> split <;> (try split) <;> omega
theorem hfI_none {z : Int} (h : ∀ d : Nat, d < 16 → hxI d ≠ z) : hfI z = 0 := by
  unfold hfI
  split
  · exfalso
    have := h (z - 48).toNat (by omega)
    unfold hxI at this
    split at this <;> omega
  · split
    · exfalso
      have := h (z - 87).toNat (by omega)
      unfold hxI at this
      split at this <;> omega
    · rfl
set_option maxHeartbeats 4000000 in
theorem l01Half_c (z : Int) (h0 : 0 ≤ z) (h1 : z ≤ 255) (w : World) : Calls Try.prog 91 #[.int .u8 z] w fun e w' => e = .returned (.int .i64 (hfI z)) ∧ w = w' := by
  go_enter Try.func91, Try.ntmps91
  go_wp2_with fail
  go_loop [3] (fun i => ∃ k : Nat, k ≤ 16 ∧ i = .int .i64 k ∧ Hid (∀ d : Nat, d < k → hxI d ≠ z)) (fun i => 16 - (intOf i).toNat)
  case atStart => exact ⟨0, by omega, rfl, fun d hd => absurd hd (by omega)⟩
  case round =>
    obtain ⟨k, hk, rfl, hK⟩ := hrel
    by_cases hlt : k < 16
    · have c1 := l01Hex_c (k : Int) (by omega) (by omega) w
      have hat := fun h => hfI_at (z := z) (d := k) (by omega) (by omega) h
      generalize hh : hxI (k : Int) = hk' at *
      by_cases he : hk' = z
      · have hd : (hk' == z) = true := by rw [he]; simp
        have hres := hat he
        replace hh := Lib.hid hh; replace hres := Lib.hid hres
        clear he hat
        go_wp2_with (go_at_call 76; ((with_reducible refine (c1).mono ?_); rintro e w1 ⟨rfl, rfl⟩))
        go_returns
        exact ⟨by rw [hres.out]; rfl, rfl⟩
      · have hd : (hk' == z) = false := by rw [beq_eq_false_iff_ne]; exact he
        have hK' : Hid (∀ d : Nat, d < k + 1 → hxI d ≠ z) := fun d hd => by
          by_cases e : d = k
          · subst e; rw [hh]; exact he
          · exact hK.out d (by omega)
        replace hh := Lib.hid hh
        clear he hat
        go_wp2_with (go_at_call 76; ((with_reducible refine (c1).mono ?_); rintro e w1 ⟨rfl, rfl⟩))
        go_round
        case rel => exact ⟨k + 1, by omega, by go_num, hK'⟩
        case measure => simp [intOf]; omega
    · obtain rfl : k = 16 := by omega
      have hres := Lib.hid (hfI_none hK.out)
      go_wp2_with fail
      go_returns
      exact ⟨by rw [hres.out]; rfl, rfl⟩

theorem us_x_none {bl : List UInt8} {q : Option ByteArray} {k : Nat} {o : List UInt8} (h : US bl q k o) (hk : k + 1 < bl.length) (hb : bl[k] = 92) (hc : bl[k + 1] = 120) (hx : bl.length ≤ k + 3) : q = none := by
  cases hq : q with
  | none => rfl
  | some t =>
    exfalso
    obtain ⟨j, b, rest, h1, h2, h3⟩ := h.next (by omega) t hq
    have hl : bl.length - k = (bl.drop k).length := by simp
    have h1' := h1
    rw [drop_two hk, hb, hc] at h1
    rcases quoteB_ways b with ⟨h4, e⟩ | ⟨h4, e⟩ | ⟨h4, e⟩ | e
    all_goals rw [e] at h1; simp only [List.cons_append, List.nil_append, List.cons.injEq] at h1
    · have := h1.2.1; revert this; decide
    · rw [← h1.2.1] at h4; revert h4; decide
    · exact absurd h1.1.symm h4.2.2
    · rw [h1', e] at hl
      simp at hl
      omega
theorem body_at {s : ByteArray} {k : Nat} (h : k + 2 < s.size) : ∃ hb : k < ((s.data.toList.drop 1).take (s.data.toList.length - 2)).length, ((s.data.toList.drop 1).take (s.data.toList.length - 2))[k] = s[k + 1] := by
  have hl : s.data.toList.length = s.size := rfl
  have hb : k < ((s.data.toList.drop 1).take (s.data.toList.length - 2)).length := by rw [List.length_take, List.length_drop]; omega
  refine ⟨hb, ?_⟩
  rw [List.getElem_take, List.getElem_drop]
  have := byte_at (s := s) (k := k + 1) (by omega)
  rw [← this]
  congr 1
  omega
set_option maxRecDepth 100000 in
set_option maxHeartbeats 8000000 in
theorem spec_Unquote_c (s : ByteArray) (hs : s.size ≤ 1099511627776) (w : World) :
    Calls Try.prog 84 #[.string s] w fun e w' => e = .returned (uqV (unquote s.data.toList)) ∧ Below w.heap.size w w' := by
  have hst := us_start (l := s.data.toList) _ rfl
  have hbl : ((s.data.toList.drop 1).take (s.data.toList.length - 2)).length = s.size - 2 := by
    have hl : s.data.toList.length = s.size := rfl
    rw [List.length_take, List.length_drop]; omega
  have hat := fun k h => body_at (s := s) (k := k) h
  have hdone := fun o => us_done (s := s) (o := o)
  have hqs := fun (o : List UInt8) (ho : o.length ≤ 1099511627776) W => spec_Quote_c ⟨o.toArray⟩ (by show o.toArray.size ≤ _; simpa using ho) W
  obtain ⟨iU, hi0, hz0, hz1, hz2⟩ := info_parts info_u8; have IU := Lib.hid hi0; have IU0 := Lib.hid hz0; have IU1 := Lib.hid hz1; have IU2 := Lib.hid hz2; clear hi0 hz0 hz1 hz2
  generalize unquote s.data.toList = q at *
  generalize (s.data.toList.drop 1).take (s.data.toList.length - 2) = bl at *
  replace hdone := Lib.hid hdone; replace hqs := Lib.hid hqs; replace hat := Lib.hid hat; replace hbl := Lib.hid hbl
  have hO0 : (w.alloc (.cells #[] 5)).ownsRow w.heap.size 5 1 (.slice (some ⟨w.heap.size, 0, none⟩) 0 0) 0 [] := own_empty_at (heap_alloc_new w _) (Nat.le_refl _)
  have hw0 : Below w.heap.size w (w.alloc (.cells #[] 5)) := by go_grown
  go_enter Try.func84, Try.ntmps84
  go_wp2_with fail
  go_loopw [4, 5] (fun v i wr => ∃ (k n g cap : Nat) (o : List UInt8), k ≤ s.size ∧ i = .int .i64 ((k : Int) + 1) ∧ v = .slice (some ⟨g, 0, none⟩) n cap ∧ Hid (n = o.length) ∧ n ≤ k ∧ wr.ownsRow w.heap.size 5 1 v n (o.map bval) ∧ Hid (US bl q k o) ∧ Below w.heap.size w wr) (fun _ i _ => s.size + 1 - (intOf i).toNat)
  case atStart => exact ⟨0, 0, w.heap.size, 0, [], by omega, rfl, rfl, rfl, by omega, hO0, hst, hw0⟩
  case round =>
    clear hO0 hw0
    obtain ⟨k, n, g, cap, o, hk, rfl, rfl, hn, hnk, O, hU, hw⟩ := hrel
    have hz := hw.size
    by_cases hlt : k + 2 < s.size
    · have d0 : decide ((k : Int) + 1 < (s.size : Int) - 1) = true := decide_eq_true (by omega)
      obtain ⟨hkb, hb⟩ := hat.out k hlt
      have hb0 : (s[k + 1].toNat : Int) ≤ 255 := by have := s[k + 1].toNat_lt; omega
      have ne : ∀ (x c : UInt8), (x.toNat : Int) ≠ (c.toNat : Int) → x ≠ c := fun x c h e => h (by rw [e])
      have eq : ∀ (x c : UInt8), (x.toNat : Int) = (c.toNat : Int) → x = c := fun x c h => UInt8.toNat_inj.1 (by omega)
      have hlb := hbl.out
      replace hlb := Lib.hid hlb
      replace O := Lib.hid O
      have g1 : (0 : Int) ≤ (k : Int) + 1 := by omega
      have g2 : (k : Int) + 1 < (s.size : Int) := by omega
      by_cases h92 : (s[k + 1].toNat : Int) = 92
      · have d1 : ((s[k + 1].toNat : Int) != 92) = false := by rw [h92]; rfl
        have e92 : bl[k]'hkb = 92 := by rw [hb]; exact eq _ _ h92
        have hb10 : (s[k + 2].toNat : Int) ≤ 255 := by have := s[k + 2].toNat_lt; omega
        have g3 : (0 : Int) ≤ (k : Int) + 1 + 1 := by omega
        have g4 : (k : Int) + 1 + 1 < (s.size : Int) := by omega
        have hUn2 : (s[k + 2].toNat : Int) ≠ 120 ∨ s.size ≤ k + 4 → Hid (US bl q (k + 2) (o ++ [if (s[k + 2].toNat : Int) = 110 then 10 else s[k + 2]])) := fun hx => by
          by_cases hl1 : k + 3 < s.size
          · obtain ⟨hkb1, hb1⟩ := hat.out (k + 1) hl1
            by_cases h110 : (s[k + 2].toNat : Int) = 110
            · rw [if_pos h110]; exact us_n hU.out hkb1 e92 (by rw [hb1]; exact eq _ _ h110)
            · rw [if_neg h110]
              have h := us_d hU.out hkb1 e92 (by rw [hb1]; exact ne _ _ h110) (by rcases hx with h | h; exact .inl (by rw [hb1]; exact ne _ _ h); exact .inr (by have := hlb.out; omega))
              rw [hb1] at h; exact h
          · exact US.none (us_last hU.out hkb e92 (by have := hlb.out; omega)) _ _
        by_cases h110 : (s[k + 2].toNat : Int) = 110
        · have d3 : ((s[k + 2].toNat : Int) == 110) = true := by rw [h110]; rfl
          have hUn := hUn2 (.inl (by omega))
          rw [if_pos h110] at hUn
          clear e92 h92 h110 hUn2
          go_wp2_with (at_builtin; refine wpList_append_lies _ rfl _ _ _ rfl (w.heap.size) 5 iU _ 1 1 Try.underlying22 IU.out IU0.out IU1.out IU2.out rfl (by omega) (.slice (some ⟨g, 0, none⟩) n cap) (n) (o.map bval) rfl (own_below O.out (by go_grown)) ⟨wr.heap.size, 0, none⟩ 1 1 [.int .u8 10] rfl rfl (World.news_of_block (cs := #[.int .u8 10]) (t := 5) (fr := (0, 0)) (heap_alloc_new' _ _ _ (by simp))) (by intro u hu; simp at hu; (first | (subst hu; rfl) | (rcases hu with rfl | rfl | rfl | rfl <;> rfl) | (rcases hu with rfl | rfl | rfl | rfl | rfl | rfl | rfl | rfl | rfl <;> rfl))) (by omega) (by unfold maxLen; omega) (by omega) (by simp; omega) _ rfl ?_; intro g' cap' w2 hown hgrow hat hlt2)
          have hw2 := below_grown2 (wr := wr) hgrow (by go_grown) hw hz O.out
          go_roundw
          case rel => exact ⟨k + 2, n + 1, g', cap', _, by omega, by go_num, rfl, by show _ = _; rw [List.length_append, ← hn.out]; rfl, by omega, own_snoc (b := 10) hown rfl, hUn, hw2⟩
          case measure => simp [intOf]; omega
        · have d3 : ((s[k + 2].toNat : Int) == 110) = false := by rw [beq_eq_false_iff_ne]; exact h110
          by_cases h120 : (s[k + 2].toNat : Int) = 120 ∧ k + 4 < s.size
          · obtain ⟨h120, hk4⟩ := h120
            have d4 : ((s[k + 2].toNat : Int) == 120) = true := by rw [h120]; rfl
            have d5 : decide ((k : Int) + 1 + 1 + 2 < (s.size : Int)) = true := decide_eq_true (by omega)
            have e1 : (s[k + 3].toNat : Int) ≤ 255 := by have := s[k + 3].toNat_lt; omega
            have e2 : (s[k + 4].toNat : Int) ≤ 255 := by have := s[k + 4].toNat_lt; omega
            have r1 := hfI_range s[k + 3].toNat
            have r2 := hfI_range s[k + 4].toNat
            obtain ⟨z, hzd⟩ : ∃ z : Int, z = 16 * hfI s[k + 3].toNat + hfI s[k + 4].toNat := ⟨_, rfl⟩
            have hUn : Hid (US bl q (k + 4) (o ++ [UInt8.ofNat z.toNat])) := by
              obtain ⟨hkb1, hb1⟩ := hat.out (k + 1) (by omega)
              by_cases hl5 : k + 5 < s.size
              · obtain ⟨hkb2, hb2⟩ := hat.out (k + 2) (by omega)
                obtain ⟨hkb3, hb3⟩ := hat.out (k + 3) (by omega)
                refine us_x hU.out hkb3 e92 (by rw [hb1]; exact eq _ _ h120) fun x1 x2 hx1 hx2 q1 q2 => ?_
                rw [hb2] at q1; rw [hb3] at q2
                rw [q1, q2, hfI_hx hx1, hfI_hx hx2] at hzd
                rw [UInt8.toNat_ofNat', Nat.mod_eq_of_lt (by omega)]
                omega
              · exact US.none (us_x_none hU.out hkb1 e92 (by rw [hb1]; exact eq _ _ h120) (by have := hlb.out; omega)) _ _
            clear h120 e92 h92 h110 hUn2
            have p1 : IntKind.i64.wrap ((k : Int) + 1 + 1 + 1) = (k : Int) + 3 := by rw [IntWalk.i64_in _ (by omega)]; omega
            have p2 : IntKind.i64.wrap ((k : Int) + 1 + 1 + 2) = (k : Int) + 4 := by rw [IntWalk.i64_in _ (by omega)]; omega
            have q1 : (0 : Int) ≤ (k : Int) + 3 := by omega
            have q2 : (k : Int) + 3 < (s.size : Int) := by omega
            have q3 : (0 : Int) ≤ (k : Int) + 4 := by omega
            have q4 : (k : Int) + 4 < (s.size : Int) := by omega
            have q5 : ((k : Int) + 3).toNat = k + 3 := by omega
            have q6 : ((k : Int) + 4).toNat = k + 4 := by omega
            go_upto_region 11 with fail
            have hz0 : 0 ≤ z ∧ z ≤ 255 := by omega
            have hzw1 : IntKind.i64.wrap (16 * hfI s[k + 3].toNat) = 16 * hfI s[k + 3].toNat := IntWalk.i64_in _ (by omega)
            have hzw2 : IntKind.i64.wrap (16 * hfI s[k + 3].toNat + hfI s[k + 4].toNat) = z := by rw [hzd]; exact IntWalk.i64_in _ (by omega)
            have hzw3 : IntKind.u8.wrap z = z := by rw [IntKind.wrap_u8]; omega
            replace hzd := Lib.hid hzd
            go_region_law ((first | (go_simp; go_at_call 91; (with_reducible refine (l01Half_c _ (by omega) (by omega) _).mono ?_); rintro e w1 ⟨rfl, rfl⟩) | (refine step_append_lies _ (by rfl) _ _ _ (by rfl) (w.heap.size) 5 iU _ 1 1 Try.underlying22 IU.out IU0.out IU1.out IU2.out rfl (by omega) _ (n) (o.map bval) (by rfl) (own_below O.out (by go_grown)) ⟨wr.heap.size, 0, none⟩ 1 1 [.int .u8 z] (by rfl) (by rfl) (World.news_of_block (cs := #[.int .u8 z]) (t := 5) (fr := (0, 0)) (heap_alloc_new' _ _ _ (by simp))) (by intro u hu; simp at hu; (first | (subst hu; rfl) | (rcases hu with rfl | rfl | rfl | rfl <;> rfl))) (by omega) (by unfold maxLen; omega) (by omega) (by simp; omega) _ rfl ?_; intro g' cap' w2 hown hgrow hat hlt2)))
            all_goals
              have hw2 := below_grown2 (wr := wr) hgrow (by go_grown) hw hz O.out
              replace hown := own_snoc (b := UInt8.ofNat z.toNat) hown (by rw [UInt8.toNat_ofNat', Nat.mod_eq_of_lt (by omega)]; omega)
              clear hzw1 hzw2 hzw3
              go_wp2_with fail
              go_roundw
              case rel => exact ⟨k + 4, n + 1, g', cap', _, by omega, by go_num, rfl, by show _ = _; rw [List.length_append, ← hn.out]; rfl, by omega, hown, hUn, hw2⟩
              case measure => simp [intOf]; omega
          · have hx : (s[k + 2].toNat : Int) ≠ 120 ∨ s.size ≤ k + 4 := by
              by_cases h : (s[k + 2].toNat : Int) = 120
              · exact .inr (by rcases Nat.lt_or_ge (k + 4) s.size with h' | h'; exact absurd ⟨h, h'⟩ h120; exact h')
              · exact .inl h
            have hUn := hUn2 hx
            rw [if_neg h110] at hUn
            have hways : ((s[k + 2].toNat : Int) == 120) = false ∨ (((s[k + 2].toNat : Int) == 120) = true ∧ decide ((k : Int) + 1 + 1 + 2 < (s.size : Int)) = false) := by
              rcases hx with h | h
              · exact .inl (by rw [beq_eq_false_iff_ne]; exact h)
              · by_cases h' : (s[k + 2].toNat : Int) = 120
                · exact .inr ⟨by rw [h']; rfl, decide_eq_false (by omega)⟩
                · exact .inl (by rw [beq_eq_false_iff_ne]; exact h')
            clear e92 h92 h110 h120 hx hUn2
            rcases hways with d4 | ⟨d4, d5⟩
            all_goals
              go_wp2_with (at_builtin; refine wpList_append_lies _ rfl _ _ _ rfl (w.heap.size) 5 iU _ 1 1 Try.underlying22 IU.out IU0.out IU1.out IU2.out rfl (by omega) (.slice (some ⟨g, 0, none⟩) n cap) (n) (o.map bval) rfl (own_below O.out (by go_grown)) ⟨wr.heap.size, 0, none⟩ 1 1 [.int .u8 (s[k + 2].toNat : Int)] rfl rfl (World.news_of_block (cs := #[.int .u8 (s[k + 2].toNat : Int)]) (t := 5) (fr := (0, 0)) (heap_alloc_new' _ _ _ (by simp))) (by intro u hu; simp at hu; (first | (subst hu; rfl) | (rcases hu with rfl | rfl | rfl | rfl <;> rfl) | (rcases hu with rfl | rfl | rfl | rfl | rfl | rfl | rfl | rfl | rfl <;> rfl))) (by omega) (by unfold maxLen; omega) (by omega) (by simp; omega) _ rfl ?_; intro g' cap' w2 hown hgrow hat hlt2)
              have hw2 := below_grown2 (wr := wr) hgrow (by go_grown) hw hz O.out
              go_roundw
              case rel => exact ⟨k + 2, n + 1, g', cap', _, by omega, by go_num, rfl, by show _ = _; rw [List.length_append, ← hn.out]; rfl, by omega, own_snoc  hown rfl, hUn, hw2⟩
              case measure => simp [intOf]; omega
      · have d1 : ((s[k + 1].toNat : Int) != 92) = true := by rw [bne_iff_ne]; exact h92
        have hUn : Hid (US bl q (k + 1) (o ++ [s[k + 1]])) := by have h := us_plain hU.out hkb (by rw [hb]; exact ne _ _ h92); rw [hb] at h; exact h
        clear h92
        go_wp2_with (at_builtin; refine wpList_append_lies _ rfl _ _ _ rfl (w.heap.size) 5 iU _ 1 1 Try.underlying22 IU.out IU0.out IU1.out IU2.out rfl (by omega) (.slice (some ⟨g, 0, none⟩) n cap) (n) (o.map bval) rfl (own_below O.out (by go_grown)) ⟨wr.heap.size, 0, none⟩ 1 1 [.int .u8 (s[k + 1].toNat : Int)] rfl rfl (World.news_of_block (cs := #[.int .u8 (s[k + 1].toNat : Int)]) (t := 5) (fr := (0, 0)) (heap_alloc_new' _ _ _ (by simp))) (by intro u hu; simp at hu; (first | (subst hu; rfl) | (rcases hu with rfl | rfl | rfl | rfl <;> rfl) | (rcases hu with rfl | rfl | rfl | rfl | rfl | rfl | rfl | rfl | rfl <;> rfl))) (by omega) (by unfold maxLen; omega) (by omega) (by simp; omega) _ rfl ?_; intro g' cap' w2 hown hgrow hat hlt2)
        have hw2 := below_grown2 (wr := wr) hgrow (by go_grown) hw hz O.out
        go_roundw
        case rel => exact ⟨k + 1, n + 1, g', cap', _, by omega, by go_num, rfl, by show _ = _; rw [List.length_append, ← hn.out]; rfl, by omega, own_snoc  hown rfl, hUn, hw2⟩
        case measure => simp [intOf]; omega
    · have d0 : decide ((k : Int) + 1 < (s.size : Int) - 1) = false := decide_eq_false (by omega)
      have hu := hdone.out o (us_end (bl := bl) (k := k) hU.out (by have := hbl.out; omega))
      have hqq := fun W => hqs.out o (by have := hn.out; omega) W
      have hrun1 := conv_own O hn.out
      generalize quoteS ⟨o.toArray⟩ = qs at *
      replace O := Lib.hid O
      rcases hu with ⟨he, rfl⟩ | ⟨he, rfl⟩
      · go_wp2_with (go_at_call 51; ((with_reducible refine (hqq _).mono ?_); rintro e w1 ⟨rfl, hb⟩; have hrun2 := conv_own (own_below O.out hb) hn.out))
        go_returns
        exact ⟨rfl, hw.trans (hb.mono hz)⟩
      · go_wp2_with (go_at_call 51; ((with_reducible refine (hqq _).mono ?_); rintro e w1 ⟨rfl, hb⟩))
        go_returns
        exact ⟨rfl, hw.trans (hb.mono hz)⟩
end Go.Proofs.Ytpblhonnknmjjaa
