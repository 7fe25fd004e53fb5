/- Parts of the proof, merged: Num2, Num3, Lx. -/
import Derived.Deep.RegionLaw
import Derived.IntWalk
import Derived.Test.YtcjoheplilaccaaGreatLt22
/- The text of a number: the program's digits and NumText. -/
namespace Go.Proofs.YtcjoheplilaccaaGreat
open Go.RowKit
set_option linter.unusedVariables false
set_option linter.unusedSimpArgs false
attribute [local go_sem] Ext.cell

/-- The digits from the last on. -/
def revd (n : Nat) : List UInt8 := if n < 10 then [dig n] else dig n :: revd (n / 10)
theorem revd_small {n : Nat} (h : n < 10) : revd n = [dig n] := by rw [revd, if_pos h]
theorem revd_step {n : Nat} (h : ¬ n < 10) : revd n = dig n :: revd (n / 10) := by conv => lhs; rw [revd, if_neg h]
theorem revd_len : ∀ (m n : Nat), n < 10 ^ (m + 1) → (revd n).length ≤ m + 1
  | 0, n, h => by rw [revd_small (by simpa using h)]; simp
  | m + 1, n, h => by
    by_cases h1 : n < 10
    · rw [revd_small h1]; simp
    · rw [revd_step h1]
      have := revd_len m (n / 10) (by rw [Nat.pow_succ] at h; omega)
      simp; omega
def numS (n : Nat) : ByteArray := ⟨(revd n).reverse.toArray⟩
theorem dig_toNat (n : Nat) : (dig n).toNat = 48 + n % 10 := by unfold dig; rw [UInt8.toNat_ofNat']; exact Nat.mod_eq_of_lt (by omega)
theorem info_u8 : (Tryz.prog.info? 5).map (fun i => (i.zero, i.size, i.bytes)) = some (some (.int .u8 0), 1, 1) := by kernel_rfl

/-- Digits laid and digits to come. -/
def DigSt (N k : Nat) (o : List UInt8) : Prop := (k = 0 ∧ o = revd N ∧ o ≠ []) ∨ ((0 < k ∨ o = []) ∧ o ++ revd k = revd N)
theorem DigSt.step {N k : Nat} {o : List UInt8} (h : DigSt N k o) (h0 : 0 < k ∨ o = []) : DigSt N (k / 10) (o ++ [dig k]) := by
  rcases h with ⟨h1, h2, h3⟩ | ⟨_, h2⟩
  · rcases h0 with h0 | h0
    · omega
    · exact absurd h0 h3
  · by_cases h1 : k < 10
    · rw [revd_small h1] at h2
      exact .inl ⟨by omega, h2, by simp⟩
    · rw [revd_step h1] at h2
      exact .inr ⟨.inl (by omega), by rw [List.append_assoc]; exact h2⟩
theorem DigSt.len {N k : Nat} {o : List UInt8} (h : DigSt N k o) : o.length ≤ (revd N).length := by
  rcases h with ⟨_, h2, _⟩ | ⟨_, h2⟩
  · rw [h2]; exact Nat.le_refl _
  · rw [← h2]; simp
theorem DigSt.done {N k : Nat} {o : List UInt8} (h : DigSt N k o) (h0 : k = 0) (h1 : o ≠ []) : o = revd N := by
  rcases h with ⟨_, h2, _⟩ | ⟨h2, _⟩
  · exact h2
  · rcases h2 with h2 | h2
    · omega
    · exact absurd h2 h1

theorem own_bytes {w : World} {base : Nat} {v : Value} {o : List UInt8} (h : w.ownsRow base 5 1 v o.length (o.map bval)) (h0 : 0 < o.length) :
    ∃ g cap, v = .slice (some ⟨g, 0, none⟩) o.length cap ∧ base ≤ g ∧ g < w.heap.size ∧ o.length ≤ cap ∧ cap ≤ 9223372036854775807 ∧ BytesAt w g o.length fun j => o.getD j 0 := by
  obtain ⟨g, cap, rfl, h1, h2, h3, h4, h5, h6⟩ := own_cells h h0
  refine ⟨g, cap, rfl, h1, h2, h3, h4, fun j hj => ?_⟩
  have e := h5 j (bval (o.getD j 0)) (by rw [List.getElem?_map, List.getElem?_eq_getElem hj]; simp [List.getD, List.getElem?_eq_getElem hj])
  obtain ⟨c, _, f⟩ := h6 j (by omega)
  exact ⟨by simpa [bval] using e, by simpa using f⟩

set_option maxRecDepth 100000 in
set_option maxHeartbeats 4000000 in
theorem digits_c (N : Nat) (hN : N ≤ 4611686018427387904) (w : World) :
    Calls Tryz.prog 115 #[.int .i64 N] w fun e w' => e = .returned (.string (numS N)) ∧ Below w.heap.size w w' := by
  have hlen : (revd N).length ≤ 19 := revd_len 18 N (by omega)
  obtain ⟨i0, hi0, hz0, hz1, hz2⟩ := info_parts info_u8
  have I := Lib.hid hi0; have I0 := Lib.hid hz0; have I1 := Lib.hid hz1; have I2 := Lib.hid hz2
  clear hi0 hz0 hz1 hz2
  go_enter Tryz.func115, Tryz.ntmps115
  go_wp2_with fail
  go_loopg [0, 3] (N + 1) (fun gg m v wr => ∃ (k : Nat) (o : List UInt8), k ≤ N ∧ m = .int .i64 k ∧ Hid (DigSt N k o) ∧ wr.ownsRow w.heap.size 5 1 v o.length (o.map bval) ∧ (∃ a c, v = .slice a o.length c) ∧ Below w.heap.size w wr ∧ k + (if o = [] then 1 else 0) ≤ gg)
  case atStart => exact ⟨N, [], Nat.le_refl _, rfl, .inr ⟨.inr rfl, by simp⟩, own_new w #[] 5 1 0 rfl (by unfold maxLen; omega) _ (Nat.le_refl _), ⟨_, _, rfl⟩, by go_grown, by simp⟩
  case round =>
    obtain ⟨k, o, hk, rfl, hD, O, ⟨a, c, rfl⟩, hw, hg⟩ := hrel
    have hz := hw.size
    have hol := hD.out.len
    by_cases h0 : 0 < k ∨ o = []
    · have hst := hD.out.step h0
      have h0' := h0
      have hb : bval (dig k) = .int .u8 (48 + (k : Int) % 10) := by unfold bval; rw [dig_toNat]; simp
      have hb2 : (o ++ [dig k]).map bval = o.map bval ++ [.int .u8 (48 + (k : Int) % 10)] := by rw [List.map_append]; simp [hb]
      have hg2 : ∀ x, k + (if o = [] then 1 else 0) ≤ x → k / 10 + (if o ++ [dig k] = [] then 1 else 0) < x := by
        intro x hg
        rw [if_neg (by simp)]
        by_cases hk0 : 0 < k
        · have : k / 10 < k := by omega
          omega
        · rw [if_pos (by rcases h0 with h | h; exact absurd h hk0; exact h)] at hg; omega
      replace hg2 := Lib.hid hg2; replace hb2 := Lib.hid hb2; replace hst := Lib.hid hst; replace O := Lib.hid O
      clear hb
      replace hg := Lib.hid hg
      clear h0
      by_cases hk0 : 0 < k
      · have hd : decide ((0 : Int) < (k : Int)) = true := decide_eq_true (by omega)
        go_wp2_with (at_builtin; refine wpList_append_lies _ rfl _ _ _ rfl w.heap.size 5 i0 _ 1 1 Tryz.underlying51 I.out I0.out I1.out I2.out rfl (by omega) (.slice a o.length c) o.length (o.map bval) rfl (own_below O.out (by go_grown)) ⟨wr.heap.size, 0, none⟩ 1 1 [.int .u8 (48 + (k : Int) % 10)] rfl rfl (World.news_of_block (cs := #[.int .u8 (48 + (k : Int) % 10)]) (t := 5) (fr := (0, 0)) (heap_alloc_new' _ _ _ (by simp))) (by intro u hu; simp at hu; subst hu; rfl) (by omega) (by unfold maxLen; omega) (by omega) (by simp; omega) _ rfl ?_; intro g cap w2 hown hgrow hat hlt2)
        have hw2 := below_grown2 (wr := wr) hgrow (by go_grown) hw hz O.out
        rw [← hb2.out] at hown
        go_roundg (k / 10 + (if o ++ [dig k] = [] then 1 else 0))
        case measure => exact hg2.out _ hg.out
        case rel => exact ⟨k / 10, o ++ [dig k], by omega, by go_num, hst.out, by simpa using hown, ⟨some ⟨g, 0, none⟩, cap, by simp⟩, hw2, Nat.le_refl _⟩
      · obtain rfl : k = 0 := by omega
        obtain rfl : o = [] := by rcases h0' with h | h; exact absurd h hk0; exact h
        replace O : Hid (wr.ownsRow w.heap.size 5 1 (.slice a 0 c) 0 []) := O
        replace hb2 : Hid (([] ++ [dig 0]).map bval = [.int .u8 48]) := rfl
        clear hk0
        simp only [List.length_nil]
        go_wp2_with (at_builtin; refine wpList_append_lies _ rfl _ _ _ rfl w.heap.size 5 i0 _ 1 1 Tryz.underlying51 I.out I0.out I1.out I2.out rfl (by omega) (.slice a 0 c) 0 [] rfl (own_below O.out (by go_grown)) ⟨wr.heap.size, 0, none⟩ 1 1 [.int .u8 48] rfl rfl (World.news_of_block (cs := #[.int .u8 48]) (t := 5) (fr := (0, 0)) (heap_alloc_new' _ _ _ (by simp))) (by intro u hu; simp at hu; subst hu; rfl) (by omega) (by unfold maxLen; omega) (by omega) (by simp; omega) _ rfl ?_; intro g cap w2 hown hgrow hat hlt2)
        have hw2 := below_grown2 (wr := wr) hgrow (by go_grown) hw hz O.out
        replace hown : w2.ownsRow w.heap.size 5 1 (.slice (some ⟨g, 0, none⟩) 1 cap) 1 (([] ++ [dig 0]).map bval) := by rw [hb2.out]; simpa using hown
        go_roundg (0 / 10 + (if [] ++ [dig 0] = [] then 1 else 0))
        case measure => exact hg2.out _ hg.out
        case rel => exact ⟨0, [] ++ [dig 0], by omega, by first | rfl | go_num, hst.out, hown, ⟨some ⟨g, 0, none⟩, cap, by simp⟩, hw2, Nat.le_refl _⟩
    · have hk0 : k = 0 := by omega
      have ho : o ≠ [] := fun h => h0 (.inr h)
      have hfin := hD.out.done hk0 ho
      subst hk0
      subst hfin
      obtain ⟨g, cap, hv, h1, h2, h3, h4, hB⟩ := own_bytes O (List.length_pos_iff.2 ho)
      obtain ⟨rfl, rfl⟩ : a = some ⟨g, 0, none⟩ ∧ c = cap := by injection hv with e1 e2 e3; exact ⟨e1, e3⟩
      obtain ⟨n, hn⟩ : ∃ n, n = (revd N).length := ⟨_, rfl⟩
      rw [← hn] at hB h3 hol
      have hn0 : 0 < n := by rw [hn]; exact List.length_pos_iff.2 ho
      have hc := reverseB_c g n c _ (by omega) h3 wr hB
      have hd2 : ((n : Int) == 0) = false := by simp; omega
      rw [← hn]
      replace hn := Lib.hid hn
      clear hD O hv ho h0 hB hg
      go_wp2_with fail
      refine hc.mono ?_
      rintro e w2 ⟨rfl, hB2, hb, hs2⟩
      have hrun := run_convert_bytes_back (P := Tryz.prog) w2 51 9 5 ⟨g, 0, none⟩ c (revd N).reverse Tryz.underlying51 Tryz.underlying5 Tryz.underlying9 (fun j hj => by
        have hj' : j < (revd N).length := by simpa using hj
        have := (hB2 j (by rw [hn.out]; exact hj')).1
        rw [show (Addr.add ⟨g, 0, none⟩ j) = ⟨g, j, none⟩ by (unfold Addr.add; split <;> simp_all), this, hn.out]
        rw [List.getElem_reverse]
        simp only [List.getD]
        rw [List.getElem?_eq_getElem (by omega)]
        simp)
      rw [List.length_reverse, ← hn.out] at hrun
      clear hc hB2
      go_wp2_with fail
      go_returns
      exact ⟨rfl, hw.trans (hb.mono h1)⟩

end Go.Proofs.YtcjoheplilaccaaGreat

/- The text of a number: the reference's digits; NumText of both. -/
namespace Go.Proofs.YtcjoheplilaccaaGreat
open Go.RowKit
set_option linter.unusedVariables false
set_option linter.unusedSimpArgs false
attribute [local go_sem] Ext.cell

theorem conv1 (W : World) (g k : Nat) (x : Int) (hx : x = 48 + (k : Int) % 10) (h : W.cell? ⟨g, 0, none⟩ = some (.int .u8 x)) : (convert 51 9 (Value.slice (some ⟨g, 0, none⟩) 1 1)).run Tryz.prog W = .ok (.string ⟨#[dig k]⟩) W := by
  refine run_convert_bytes_back (P := Tryz.prog) _ 51 9 5 ⟨g, 0, none⟩ 1 [dig k] Tryz.underlying51 Tryz.underlying5 Tryz.underlying9 (fun j hj => ?_)
  obtain rfl : j = 0 := by simp at hj; exact hj
  have e : (dig k).toNat = 48 + k % 10 := dig_toNat k
  show W.cell? ⟨g, 0, none⟩ = some (.int .u8 ((dig k).toNat : Int))
  rw [h, hx, e]
  simp

theorem numS_small {N : Nat} (h : N < 10) : numS N = ⟨#[dig N]⟩ := by unfold numS; rw [revd_small h]; rfl
theorem numS_step {N : Nat} (h : ¬ N < 10) : numS N = numS (N / 10) ++ ⟨#[dig N]⟩ := by
  apply ByteArray.ext
  apply Array.ext'
  unfold numS
  rw [revd_step h]
  simp

/-- The text of a number of 63 bits; of others none. -/
def numText (n : Int) : ByteArray := if -4611686018427387904 ≤ n ∧ n ≤ 4611686018427387903 then (if n < 0 then ⟨#[45]⟩ ++ numS n.natAbs else numS n.natAbs) else ByteArray.empty
theorem numS_len (N : Nat) (h : N ≤ 4611686018427387904) : (numS N).size ≤ 19 := by
  have := revd_len 18 N (by omega)
  show (revd N).reverse.toArray.size ≤ 19
  simpa using this

set_option maxHeartbeats 4000000 in
theorem impl_NumText_c (n : Int) (hi : I64 n) (w : World) :
    Calls Tryz.prog 94 #[.int .i64 n] w fun e w' => e = .returned (.string (numText n)) ∧ Below w.heap.size w w' := by
  obtain ⟨hi0, hi1⟩ := hi
  have W1 := fun W => within_c n (-4611686018427387904) 4611686018427387903 W
  unfold numText
  by_cases h : -4611686018427387904 ≤ n ∧ n ≤ 4611686018427387903
  · rw [decide_eq_true h] at W1
    rw [if_pos h]
    by_cases hn : n < 0
    · obtain ⟨N, rfl⟩ : ∃ N : Nat, n = -(N : Int) := ⟨n.natAbs, by omega⟩
      rw [if_pos hn, Int.natAbs_neg, Int.natAbs_natCast]
      have c1 := fun W => digits_c N (by omega) W
      have hl := numS_len N (by omega)
      generalize numS N = sN at *
      have hl2 : (9223372036854775807 < 1 + sN.size) = False := by simp; omega
      have d1 : decide (-(N : Int) < 0) = true := decide_eq_true hn
      have hn1 : (N : Int) ≤ 9223372036854775807 := by omega
      have hn2 : 0 < N := by omega
      clear h hi0 hi1 hn
      go_enter Tryz.func94, Tryz.ntmps94
      go_wp2_with (first | (go_at_call 59; ((with_reducible refine (W1 _).mono ?_); rintro e w1 ⟨rfl, rfl⟩)) | (go_at_call 115; ((with_reducible refine (c1 _).mono ?_); rintro e w1 ⟨rfl, hb⟩)))
      go_returns
      exact ⟨rfl, hb⟩
    · obtain ⟨N, rfl⟩ : ∃ N : Nat, n = N := ⟨n.natAbs, by omega⟩
      rw [if_neg hn, Int.natAbs_natCast]
      have c1 := fun W => digits_c N (by omega) W
      generalize numS N = sN at *
      have d1 : decide ((N : Int) < 0) = false := decide_eq_false hn
      have hn1 : (N : Int) ≤ 9223372036854775807 := by omega
      clear h hi0 hi1
      go_enter Tryz.func94, Tryz.ntmps94
      go_wp2_with (first | (go_at_call 59; ((with_reducible refine (W1 _).mono ?_); rintro e w1 ⟨rfl, rfl⟩)) | (go_at_call 115; ((with_reducible refine (c1 _).mono ?_); rintro e w1 ⟨rfl, hb⟩)))
      go_returns
      exact ⟨rfl, hb⟩
  · rw [decide_eq_false h] at W1
    rw [if_neg h]
    clear h
    go_enter Tryz.func94, Tryz.ntmps94
    go_wp2_with (go_at_call 59; ((with_reducible refine (W1 _).mono ?_); rintro e w1 ⟨rfl, rfl⟩))
    go_returns
    exact ⟨rfl, Below.refl _ _⟩

end Go.Proofs.YtcjoheplilaccaaGreat

/- The program's lexer: its state; isBlank, starts, word. -/
namespace Go.Proofs.YtcjoheplilaccaaGreat
open Go.RowKit
set_option linter.unusedVariables false
set_option linter.unusedSimpArgs false
attribute [local go_sem] Ext.cell

/-- A lexer in box b: over s, at place k; its tokens so far. -/
structure LxS (w : World) (b : Nat) (s : ByteArray) (k : Nat) (lv : Value) : Prop where
  row : RowAt w b 0 [.string s, .int .i64 (k : Int), lv, .int .i64 0]
  wr : Wr w b 0 4
theorem LxS.lt {w : World} {b : Nat} {s : ByteArray} {k : Nat} {lv : Value} (h : LxS w b s k lv) : b < w.heap.size := World.block_lt_of_cell? _ _ h.row.box4.1
theorem LxS.below {w w' : World} {b : Nat} {s : ByteArray} {k : Nat} {lv : Value} (h : LxS w b s k lv) (hb : Below w.heap.size w w') : LxS w' b s k lv := ⟨h.row.below hb, h.wr.below hb⟩
theorem LxS.kept {S : Nat → Prop} {w w' : World} {b : Nat} {s : ByteArray} {k : Nat} {lv : Value} (h : LxS w b s k lv) (hk : Kept S w w') (hS : ¬ S b) : LxS w' b s k lv := ⟨h.row.kept hk hS, h.wr.kept hk hS⟩
theorem LxS.setAt {w : World} {b : Nat} {s : ByteArray} {k j : Nat} {lv : Value} (h : LxS w b s k lv) : LxS (w.setCell ⟨b, 1, none⟩ (.int .i64 (j : Int))) b s j lv := ⟨h.row.putAt (j := 1) (by simp) _, h.wr.set 1 _⟩
theorem LxS.setList {w : World} {b : Nat} {s : ByteArray} {k : Nat} {lv : Value} (h : LxS w b s k lv) (u : Value) : LxS (w.setCell ⟨b, 2, none⟩ u) b s k u := ⟨h.row.putAt (j := 2) (by simp) _, h.wr.set 2 _⟩
def placeX (b : Nat) (w : World) : Nat := match w.cell? ⟨b, 1, none⟩ with
  | some (.int _ z) => z.toNat
  | _ => 0
theorem LxS.place {w : World} {b : Nat} {s : ByteArray} {k : Nat} {lv : Value} (h : LxS w b s k lv) : placeX b w = k := by
  unfold placeX
  rw [h.row.box4.2.1]
  simp
/-- What stands from a place on. -/
def restB (s : ByteArray) (k : Nat) : List UInt8 := s.data.toList.drop k
theorem byte_at2 {s : ByteArray} {k : Nat} (h : k < s.size) : s.data.toList[k]'h = s[k] := by rw [Array.getElem_toList]; rfl
theorem restB_cons {s : ByteArray} {k : Nat} (h : k < s.size) : restB s k = s[k] :: restB s (k + 1) := by
  unfold restB
  rw [List.drop_eq_getElem_cons (show k < s.data.toList.length from h), byte_at2 h]
theorem restB_nil {s : ByteArray} {k : Nat} (h : s.size ≤ k) : restB s k = [] := List.drop_of_length_le h
theorem restB_drop (s : ByteArray) (k j : Nat) : (restB s k).drop j = restB s (k + j) := by unfold restB; rw [List.drop_drop]
theorem restB_len (s : ByteArray) (k : Nat) : (restB s k).length = s.size - k := by unfold restB; rw [List.length_drop]; rfl
theorem preB_take (t l : List UInt8) : preB t l = (l.take t.length == t) := by
  unfold preB
  rw [Bool.eq_iff_iff, List.isPrefixOf_iff_prefix, beq_iff_eq, List.prefix_iff_eq_take]
  exact eq_comm
theorem preB_far {s t : ByteArray} {k : Nat} (h0 : 0 < t.size) (h : s.size < k + t.size) : preB t.data.toList (restB s k) = false := by
  rw [preB_take, beq_eq_false_iff_ne]
  intro e
  have := congrArg List.length e
  rw [List.length_take, restB_len] at this
  have e2 : t.data.toList.length = t.size := rfl
  omega
theorem preB_near {s t : ByteArray} {k : Nat} (h : k + t.size ≤ s.size) : ((s.extract k (k + t.size)).toList == t.toList) = preB t.data.toList (restB s k) := by
  rw [preB_take, ByteArray.toList_eq, ByteArray.toList_eq, ByteArray.data_extract, Array.toList_extract]
  unfold restB
  have e2 : k + t.size - k = t.data.toList.length := by show k + t.size - k = t.size; omega
  show ((s.data.toList.drop k).take (k + t.size - k) == _) = _
  rw [e2]
theorem wordL_stop {s : ByteArray} {k : Nat} (h : k < s.size) (hb : wordB s[k].toNat = false) : wordL (restB s k) = [] := by
  rw [restB_cons h]; simp [wordL, hb]
theorem wordL_go {s : ByteArray} {k : Nat} (h : k < s.size) (hb : wordB s[k].toNat = true) : wordL (restB s k) = s[k] :: wordL (restB s (k + 1)) := by
  rw [restB_cons h]; simp [wordL, hb]
theorem wordL_nil {s : ByteArray} {k : Nat} (h : s.size ≤ k) : wordL (restB s k) = [] := by rw [restB_nil h]; rfl
theorem word_extract (s : ByteArray) (k : Nat) : s.extract k (k + (wordL (restB s k)).length) = baL (wordL (restB s k)) := by
  apply ByteArray.ext
  apply Array.ext'
  rw [ByteArray.data_extract, Array.toList_extract]
  show ((restB s k).take (k + (wordL (restB s k)).length - k)) = wordL (restB s k)
  rw [Nat.add_sub_cancel_left]
  have : wordL (restB s k) <+: restB s k := List.takeWhile_prefix _
  exact (List.prefix_iff_eq_take.1 this).symm
theorem wordL_le (s : ByteArray) {k : Nat} (h : k ≤ s.size) : k + (wordL (restB s k)).length ≤ s.size := by
  have : wordL (restB s k) <+: restB s k := List.takeWhile_prefix _
  have := this.length_le
  rw [restB_len] at this
  omega

set_option maxRecDepth 100000 in
set_option maxHeartbeats 4000000 in
theorem isBlank_c (n : Int) (w : World) : Calls Tryz.prog 42 #[.int .u8 n] w fun e w' => e = .returned (.bool (blankB n)) ∧ w = w' := by
  have e : ∀ c : Int, decide (n = c) = (n == c) := fun c => by
    by_cases h : n = c
    · subst h; simp
    · rw [decide_eq_false h, beq_eq_false_iff_ne.2 h]
  have e2 : blankB n = ((((n == 9) || (n == 10)) || (n == 13)) || (n == 32)) := by
    unfold blankB
    rw [e, e, e, e]
  rw [e2]
  clear e e2
  generalize h1 : (n == 9) = q1
  generalize h2 : (n == 10) = q2
  generalize h3 : (n == 13) = q3
  generalize h4 : (n == 32) = q4
  cases q1 <;> cases q2 <;> cases q3 <;> cases q4
  all_goals
    go_enter Tryz.func42, Tryz.ntmps42
    go_wp2_with fail
    go_returns
    exact ⟨rfl, rfl⟩

set_option maxRecDepth 100000 in
set_option maxHeartbeats 4000000 in
theorem starts_c (s t : ByteArray) (k b : Nat) (lv : Value) (hs : s.size ≤ 4000) (ht : t.size ≤ 4000) (ht0 : 0 < t.size) (hk : k ≤ s.size) (w : World) (R : LxS w b s k lv) :
    Calls Tryz.prog 43 #[.pointer (some ⟨b, 0, none⟩), .string t] w fun e w' => e = .returned (.bool (preB t.data.toList (restB s k))) ∧ Below w.heap.size w w' := by
  obtain ⟨r_0, r_1, r_2, r_3⟩ := R.row.box4
  have hbl := R.lt
  have p1 : IntKind.i64.wrap ((k : Int) + (t.size : Int)) = (k : Int) + (t.size : Int) := IntWalk.i64_in _ (by omega)
  by_cases hf : s.size < k + t.size
  · rw [preB_far ht0 hf]
    have d1 : decide ((k : Int) + (t.size : Int) ≤ (s.size : Int)) = false := decide_eq_false (by omega)
    go_enter Tryz.func43, Tryz.ntmps43
    go_upto_region 1 with fail
    (refine wp_region_ext_lit (by kernel_rfl) (by kernel_rfl) ?_; (repeat (any_goals (first | go_big_quiet_step (fail) | quiet_step (fail) | (refine wpQuiet_step (fun K hK => ?_); go_simp; split <;> (refine hK _ ?_; clear hK K))))); all_goals (refine wpQuiet_nil ?_; rintro w1 ⟨⟨_, hb1⟩, rfl⟩))
    go_wp2_with fail
    go_returns
    exact ⟨rfl, hb1⟩
  · rw [← preB_near (by omega : k + t.size ≤ s.size)]
    have d1 : decide ((k : Int) + (t.size : Int) ≤ (s.size : Int)) = true := decide_eq_true (by omega)
    have q1 : (0 : Int) ≤ (k : Int) + (t.size : Int) := by omega
    have q2 : (k : Int) ≤ (k : Int) + (t.size : Int) := by omega
    have q3 : (k : Int) + (t.size : Int) ≤ (s.size : Int) := by omega
    have q4 : ((k : Int) + (t.size : Int)).toNat = k + t.size := by omega
    go_enter Tryz.func43, Tryz.ntmps43
    go_upto_region 1 with fail
    (refine wp_region_ext_lit (by kernel_rfl) (by kernel_rfl) ?_; (repeat (any_goals (first | go_big_quiet_step (fail) | quiet_step (fail) | (refine wpQuiet_step (fun K hK => ?_); go_simp; split <;> (refine hK _ ?_; clear hK K))))); all_goals (refine wpQuiet_nil ?_; rintro w1 ⟨⟨_, hb1⟩, rfl⟩))
    go_wp2_with fail
    go_returns
    exact ⟨rfl, hb1⟩

set_option maxRecDepth 100000 in
set_option maxHeartbeats 8000000 in
theorem word_c (s : ByteArray) (k b : Nat) (lv : Value) (hs : s.size ≤ 4000) (hk : k ≤ s.size) (w : World) (R : LxS w b s k lv) :
    Calls Tryz.prog 67 #[.pointer (some ⟨b, 0, none⟩)] w fun e w' => e = .returned (.string (baL (wordL (restB s k)))) ∧ Below w.heap.size w w' := by
  obtain ⟨r_0, r_1, r_2, r_3⟩ := R.row.box4
  have hbl := R.lt
  have hex := word_extract s k
  have hle := wordL_le s hk
  obtain ⟨q, hq⟩ : ∃ q, q = k + (wordL (restB s k)).length := ⟨_, rfl⟩
  have hq0 : Hid (k + (wordL (restB s k)).length = q) := hq.symm
  rw [← hq] at hex hle
  rw [← hex]
  clear hex
  have hkq : k ≤ q := by omega
  replace hq := Lib.hid hq
  go_enter Tryz.func67, Tryz.ntmps67
  go_wp2_with fail
  go_loopw [3] (fun z wr => ∃ p : Nat, k ≤ p ∧ p ≤ q ∧ z = .int .i64 p ∧ Hid (p + (wordL (restB s p)).length = q) ∧ Below w.heap.size w wr) (fun z _ => s.size - (intOf z).toNat)
  case atStart => exact ⟨k, by omega, by omega, rfl, hq0, Below.refl _ _⟩
  case round =>
    obtain ⟨p, hp0, hp1, rfl, hpq, hw⟩ := hrel
    have R1 := R.below hw
    clear r_0 r_1 r_2 r_3
    obtain ⟨r_0, r_1, r_2, r_3⟩ := R1.row.box4
    have hbl1 := R1.lt
    by_cases hlt : p < s.size
    · have d1 : decide ((p : Int) < (s.size : Int)) = true := decide_eq_true (by omega)
      obtain ⟨bv, hbv⟩ : ∃ q, wordB s[p].toNat = q := ⟨_, rfl⟩
      have cw := isWord_c (s[p].toNat : Int)
      rw [hbv] at cw
      replace cw := Lib.hid cw
      cases bv
      · have h1 := wordL_stop hlt hbv
        have hpe : p = q := by have h := hpq.out; rw [h1] at h; exact h
        replace hbv := Lib.hid hbv
        clear h1 hpq
        subst hpe
        go_upto_region 4 with (go_at_call 93; (with_reducible refine (cw.out _).mono ?_); rintro e w2 ⟨rfl, rfl⟩)
        (refine wp_region_ext_lit (by kernel_rfl) (by kernel_rfl) ?_; (repeat (any_goals (first | go_big_quiet_step (fail) | quiet_step (fail) | (refine wpQuiet_step (fun K hK => ?_); go_simp; split <;> (refine hK _ ?_; clear hK K))))); all_goals (refine wpQuiet_nil ?_; rintro w1 ⟨⟨_, hb1⟩, rfl⟩))
        go_wp2_with fail
        go_returns
        exact ⟨rfl, hw.trans (hb1.mono hw.size)⟩
      · have h1 := wordL_go hlt hbv
        have hpq1 : Hid (p + 1 + (wordL (restB s (p + 1))).length = q) := by
          show _ = _
          have h := hpq.out
          rw [h1] at h
          simp only [List.length_cons] at h
          omega
        have hpq2 : p + 1 ≤ q := by have := hpq1.out; omega
        replace hbv := Lib.hid hbv
        clear h1 hpq
        go_wp2_with (go_at_call 93; (with_reducible refine (cw.out _).mono ?_); rintro e w2 ⟨rfl, rfl⟩)
        go_roundw
        case rel => exact ⟨p + 1, by omega, hpq2, by go_num, hpq1, hw⟩
        case measure => simp [intOf]; omega
    · have hpe : p = q := by have h := hpq.out; rw [wordL_nil (by omega : s.size ≤ p)] at h; exact h
      clear hpq
      subst hpe
      have d1 : decide ((p : Int) < (s.size : Int)) = false := decide_eq_false (by omega)
      go_upto_region 4 with fail
      (refine wp_region_ext_lit (by kernel_rfl) (by kernel_rfl) ?_; (repeat (any_goals (first | go_big_quiet_step (fail) | quiet_step (fail) | (refine wpQuiet_step (fun K hK => ?_); go_simp; split <;> (refine hK _ ?_; clear hK K))))); all_goals (refine wpQuiet_nil ?_; rintro w1 ⟨⟨_, hb1⟩, rfl⟩))
      go_wp2_with fail
      go_returns
      exact ⟨rfl, hw.trans (hb1.mono hw.size)⟩
end Go.Proofs.YtcjoheplilaccaaGreat
