/- Parts of the proof, merged: Copy3, Within, Word, Con. -/
import Derived.Test.YtnmmfcnkpcigoaaGreatRows
import Derived.Test.YtnmmfcnkpcigoaaGreatDe12
/- Patterns' copies, a code's copy: the call's own. -/
namespace Go.Proofs.YtnmmfcnkpcigoaaGreat
open Go.RowKit
set_option linter.unusedVariables false
set_option linter.unusedSimpArgs false
attribute [local go_sem] Ext.cell

theorem GrowO.push {α : Type} {O : FootR α} {sz : Nat} {e : TypeId} {lo n : Nat} {w : World} {v : Value} {ps : List (List Nat)} {rows : List (List Value)} {xs : List α} {p : List Nat} {r : List Value} {x : α}
    (h : RowsO O sz w ps rows xs) (hn : n = xs.length) (hown : w.ownsRow lo e sz v (n + 1) (rows.flatten ++ r)) (hr : r.length = sz) (ho : O p w r x) : GrowO e sz O lo w v (ps ++ [p]) (xs ++ [x]) := by
  subst hn
  exact ⟨rows ++ [r], by rw [List.flatten_append, List.flatten_singleton, List.length_append]; exact hown, h.push hr ho⟩
/-- Behind an append: the blocks are still apart. -/
theorem fpO_push {v : Value} {g n cap s0 s1 : Nat} {ps : List (List Nat)} {bs : List Nat} (hnd : (fpO v ps).Nodup) (hlt : ∀ b ∈ fpO v ps, b < s0) (hb : bs.Nodup) (hb0 : ∀ b ∈ bs, s0 ≤ b) (hb1 : ∀ b ∈ bs, b < s1) (hs : s0 ≤ s1) (hat : v.ownBlock = some g ∨ g = s1) :
    (fpO (.slice (some ⟨g, 0, none⟩) n cap) (ps ++ [bs])).Nodup := by
  rw [fpO_slice, List.flatten_append, List.flatten_singleton, List.nodup_cons]
  have h1 : ps.flatten.Nodup := by unfold fpO at hnd; exact (List.nodup_append.1 hnd).2.1
  refine ⟨fun h => ?_, List.nodup_append.2 ⟨h1, hb, fun b h2 b2 h3 e => by subst e; have := hlt b (mem_fpO.2 (.inr h2)); have := hb0 b h3; omega⟩⟩
  rcases hat with hv | rfl
  · have h3 := hlt g (mem_fpO.2 (.inl hv))
    rcases List.mem_append.1 h with h | h
    · unfold fpO at hnd
      exact (List.nodup_append.1 hnd).2.2 g (by rw [hv]; simp) g h rfl
    · have := hb0 g h; omega
  · rcases List.mem_append.1 h with h | h
    · have := hlt g (mem_fpO.2 (.inr h)); omega
    · have := hb1 g h; omega

set_option maxRecDepth 100000 in
set_option maxHeartbeats 8000000 in
theorem copyPats_o (l : List GPat) (hl : l.length ≤ 1048576) (hS : ∀ q ∈ l, PatSmall q) (u : Value) (lo : Nat) (w : World) (hu : Sl GPat.R 1 lo w u l) :
    Calls Tryz.prog 78 #[u] w fun e w' => ∃ v bs, e = .returned v ∧ SlO 105 1 GPat.O bs w' v l ∧ bs.Nodup ∧ (∀ b ∈ bs, w.heap.size ≤ b) ∧ Below w.heap.size w w' := by
  obtain ⟨ua, uc, rfl, ul, um, h0⟩ := hu
  obtain ⟨n, hn⟩ : ∃ n, n = l.length := ⟨_, rfl⟩
  rw [← hn] at ul hl ⊢
  have cP := fun (q : GPat) (hq : q ∈ l) (r : List Value) (lo : Nat) (w : World) (hr : GPat.R lo w r q) => copyPat_o q (hS q hq) r lo w hr
  clear hS
  replace hn := Lib.hid hn; replace h0 := Lib.hid h0; replace cP := Lib.hid cP
  obtain ⟨iD, hi0, hz0, hz1, hz2⟩ := info_parts info_PatQ; have ID := Lib.hid hi0; have ID0 := Lib.hid hz0; have ID1 := Lib.hid hz1; have ID2 := Lib.hid hz2; clear hi0 hz0 hz1 hz2
  go_enter Tryz.func78, Tryz.ntmps78
  go_upto_region 2 with fail
  obtain ⟨w1, hW1⟩ : ∃ W, W = w.alloc (.cells #[] 105) := ⟨_, rfl⟩
  rw [← hW1]
  have hw1 : Below w.heap.size w w1 := by rw [hW1]; go_grown
  have hs1 : w.heap.size < w1.heap.size := by rw [hW1]; simp
  have G1 : GrowO 105 1 GPat.O w.heap.size w1 (.slice (some ⟨w.heap.size, 0, none⟩) 0 0) [] ([] : List GPat) := ⟨[], own_empty_at (by rw [hW1]; exact heap_alloc_new' _ _ _ rfl) (Nat.le_refl _), RowsO.nil⟩
  clear hW1
  replace G1 := Lib.hid G1
  go_wp2_with fail
  go_loopw [3, 9] (fun v i wr => ∃ (k : Nat) (pss : List (List Nat)), k ≤ n ∧ i = .int .i64 k ∧ Below w.heap.size w wr ∧ Hid (GrowO 105 1 GPat.O w.heap.size wr v pss (l.take k)) ∧ Hid (fpO v pss).Nodup ∧ Hid (∀ b ∈ fpO v pss, w.heap.size ≤ b)) (fun _ i _ => n - (intOf i).toNat)
  case atStart => exact ⟨0, [], by omega, rfl, hw1, G1, by show (fpO _ _).Nodup; rw [fpO_slice]; simp, fun b hb => by rw [fpO_slice] at hb; simp at hb; omega⟩
  case round =>
    clear G1 hw1 hs1
    obtain ⟨k, pss, hk, rfl, hw, hG, hN, hL⟩ := hrel
    have hz := hw.size
    obtain ⟨va, vc, rfl⟩ := hG.out.form
    by_cases hlt : k < n
    · have hvl : (l.take k).length = k := by rw [List.length_take, ← hn.out]; omega
      obtain ⟨b1, o1, q, s1, _, rfl, P1, hx, r1⟩ := (h0.out.below GPat.good hw).get hn hlt
      have Hx := hx
      obtain ⟨u0, rfl, _, q0⟩ := hx
      obtain ⟨qa, qc, rfl⟩ := q0.form
      have e_0 : wr.cell? ⟨b1, o1 + k, none⟩ = some (.slice qa q.nodes.length qc) := by simpa using r1 0 _ rfl
      rw [hvl] at hG hN hL ⊢
      clear r1 q0
      have hltf := hG.out.lt GPat.ok
      go_upto_region 5 with fail
      obtain ⟨w3, hW3⟩ : ∃ W, W = wr.alloc (.cells #[.slice qa q.nodes.length qc] 105) := ⟨_, rfl⟩
      rw [← hW3]
      have hb3 : Below wr.heap.size wr w3 := by rw [hW3]; go_grown
      have N : RowAt w3 wr.heap.size 0 [.slice qa q.nodes.length qc] := by rw [hW3]; exact RowAt.box _ _ _
      have n_0 := N.box1
      have hs3 : wr.heap.size < w3.heap.size := World.block_lt_of_cell? _ _ n_0
      have cQ := cP.out q (List.mem_of_getElem? P1.out) _ lo w3 (GPat.good.below Hx hb3)
      clear hW3 e_0 Hx
      generalize q.nodes.length = nq at *
      replace cQ := Lib.hid cQ; replace hltf := Lib.hid hltf
      obtain ⟨rows, hown0, hrows⟩ := hG.out
      rw [hvl] at hown0
      replace hown0 := Lib.hid hown0; replace hrows := Lib.hid hrows
      have hob := own_base hown0.out
      replace hob := Lib.hid hob
      clear hG
      go_wp2_with (first | (go_at_call 106; (with_reducible refine (cQ.out).mono ?_); rintro e w4 ⟨r', bs, rfl, O4, hnd, hfr, hb4⟩; obtain ⟨u4, rfl, hwf4, s4⟩ := O4; obtain ⟨a4, c4, rfl⟩ := s4.form; have hb34 : Below wr.heap.size wr w4 := hb3.trans (hb4.mono (by omega)); have own4 := Lib.hid (own_below hown0.out hb34); have z4 := hb4.size; replace s4 := Lib.hid s4; replace hnd := Lib.hid hnd; replace hfr := Lib.hid hfr) | (at_builtin; refine wpList_append_lies _ rfl _ _ _ rfl (w.heap.size) 105 iD _ 1 24 Tryz.underlying45 ID.out ID0.out ID1.out ID2.out rfl (by omega) (.slice va k vc) (k) (rows.flatten) rfl (own_below own4.out (by go_grown)) ⟨w4.heap.size, 0, none⟩ 1 1 [.slice a4 q.nodes.length c4] rfl rfl (World.news_of_block (cs := #[.slice a4 q.nodes.length c4]) (t := 105) (fr := (0, 0)) (heap_alloc_new' _ _ _ (by simp))) (by intro u hu; simp at hu; (first | (subst hu; rfl) | (rcases hu with rfl | rfl | rfl | rfl <;> rfl) | (rcases hu with rfl | rfl | rfl | rfl | rfl | rfl <;> rfl) | (rcases hu with rfl | rfl | rfl | rfl | rfl | rfl | rfl <;> rfl) | (rcases hu with rfl | rfl | rfl | rfl | rfl | rfl | rfl | rfl | rfl <;> rfl))) (by omega) (by unfold maxLen; omega) (by omega) (by simp; omega) _ rfl ?_; intro g2 cap2 w6 hown hgrow hat hlt2))
      have k6 := kept_of hgrow (w := w4) (by go_grown)
      have hsA : (w4.alloc (.cells #[.slice a4 q.nodes.length c4] 105)).heap.size = w4.heap.size + 1 := by simp
      have hz6 : w4.heap.size + 1 ≤ w6.heap.size := by have := hgrow.size; rw [hsA] at this; exact this
      have hz34 := hb34.size
      have hN' := hN.out
      have hR6 := (hrows.out.below GPat.ok hb34).kept GPat.ok k6 (fun b hb e => by
        unfold fpO at hN'
        exact (List.nodup_append.1 hN').2.2 b (by rw [← e]; simp) b hb rfl)
      have hS6 := s4.out.kept GPNode.ok k6 (fun b hb e => by have h1 := (hob.out b e.symm).2; have h2 := hfr.out b hb; omega)
      have hG6 : GrowO 105 1 GPat.O w.heap.size w6 (.slice (some ⟨g2, 0, none⟩) (k + 1) cap2) (pss ++ [bs]) (l.take (k + 1)) := by
        rw [take_snoc' P1.out]
        exact GrowO.push hR6 hvl.symm hown rfl ⟨_, rfl, hwf4, hS6⟩
      have hN6 := fpO_push (n := k + 1) (cap := cap2) (s0 := wr.heap.size) (s1 := w4.heap.size + 1) hN' hltf.out hnd.out (fun b hb => by have := hfr.out b hb; omega) (fun b hb => by have := s4.out.lt GPNode.ok b hb; omega) (by omega) (by rw [← hsA]; exact hat)
      have hB6 : Below w.heap.size w w6 := below_grown2 (wr := wr) (w := w) (base := w.heap.size) hgrow (hb34.trans (by go_grown)) hw hz hown0.out
      replace hG6 := Lib.hid hG6; replace hN6 := Lib.hid hN6
      go_roundw
      case rel => exact ⟨k + 1, pss ++ [bs], by omega, by go_num, hB6, hG6, hN6, fun b hb => by
        rw [fpO_slice, List.flatten_append, List.flatten_singleton] at hb
        rcases List.mem_cons.1 hb with h | h
        · rcases hat with h2 | h2
          · exact h ▸ (hob.out g2 h2).1
          · rw [hsA] at h2; omega
        · rcases List.mem_append.1 h with h | h
          · exact hL.out b (mem_fpO.2 (.inr h))
          · have := hfr.out b h; omega⟩
      case measure => simp [intOf]; omega
    · obtain rfl : k = n := by omega
      have hvl : (l.take k).length = k := by rw [List.length_take, ← hn.out]; omega
      rw [hvl] at hG hN hL ⊢
      have hG' := hG.out
      rw [List.take_of_length_le (by rw [← hn.out]; exact Nat.le_refl _)] at hG'
      replace hG' := Lib.hid hG'
      go_wp2_with fail
      go_returns
      exact ⟨_, _, rfl, hG'.out.slO, hN.out, hL.out, hw⟩

end Go.Proofs.YtnmmfcnkpcigoaaGreat

/- Ranges of numbers: within, Wrap. -/
namespace Go.Proofs.YtnmmfcnkpcigoaaGreat
open Go.RowKit
set_option linter.unusedVariables false
set_option linter.unusedSimpArgs false
attribute [local go_sem] Ext.cell

theorem toList_empty : ByteArray.empty.toList = [] := by rw [ByteArray.toList_eq]; rfl
theorem isEmpty_iff (s : ByteArray) : s.toList.isEmpty = true ↔ s = ByteArray.empty := by
  rw [List.isEmpty_iff]
  constructor
  · intro h
    exact (toList_eq s ByteArray.empty).1 (by rw [h, toList_empty])
  · rintro rfl; exact toList_empty

/-- 63 bits. -/
def wrap63 (n : Int) : Int := (n + 4611686018427387904) % 9223372036854775808 - 4611686018427387904
theorem wrap63_eq (n : Int) : wrap63 n = n ↔ -4611686018427387904 ≤ n ∧ n ≤ 4611686018427387903 := by unfold wrap63; omega

set_option maxHeartbeats 400000 in
theorem within_c (n lo hi : Int) (w : World) :
    Calls Tryz.prog 42 #[.int .i64 n, .int .i64 lo, .int .i64 hi] w fun e w' => e = .returned (.bool (decide (lo ≤ n ∧ n ≤ hi))) ∧ w = w' := by
  go_enter Tryz.func42, Tryz.ntmps42
  go_wp2
  all_goals (go_returns; refine ⟨?_, rfl⟩; simp_all)
  all_goals omega

set_option maxHeartbeats 400000 in
theorem Wrap_c (n : Int) (h : I64 n) (w : World) :
    Calls Tryz.prog 33 #[.int .i64 n] w fun e w' => e = .returned (.int .i64 (wrap63 n)) ∧ w = w' := by
  obtain ⟨h0, h1⟩ := h
  go_enter Tryz.func33, Tryz.ntmps33
  go_wp2
  go_returns
  refine ⟨?_, rfl⟩
  show Ending.returned (Value.int .i64 (wrap64 (n * 2) / 2)) = _
  congr 2
  unfold wrap64 wrap63
  omega

end Go.Proofs.YtnmmfcnkpcigoaaGreat

/- Bytes and words: the program's and the reference's tests. -/
namespace Go.Proofs.YtnmmfcnkpcigoaaGreat
open Go.RowKit
set_option linter.unusedVariables false
set_option linter.unusedSimpArgs false
attribute [local go_sem] Ext.cell

def lowB (n : Int) : Bool := decide (97 ≤ n ∧ n ≤ 122)
def upB (n : Int) : Bool := decide (65 ≤ n ∧ n ≤ 90)
def digB (n : Int) : Bool := decide (48 ≤ n ∧ n ≤ 57)
def wordB (n : Int) : Bool := lowB n || upB n || digB n || decide (n = 95)
def clsB (n : Int) : Int := if lowB n then 1 else if upB n then 2 else if digB n || decide (n = 95) then 3 else 0
theorem clsB_zero (n : Int) : decide (clsB n = 0) = !wordB n := by
  unfold clsB wordB
  cases lowB n <;> cases upB n <;> cases digB n <;> cases decide (n = 95) <;> simp
theorem clsB_two (n : Int) : decide (clsB n = 2) = upB n := by
  have : lowB n = true → upB n = false := by unfold lowB upB; simp; omega
  unfold clsB
  cases h1 : lowB n <;> cases h2 : upB n <;> cases digB n <;> cases decide (n = 95) <;> simp_all
theorem clsB_one (n : Int) : decide (clsB n = 1) = lowB n := by
  unfold clsB
  cases h1 : lowB n <;> cases h2 : upB n <;> cases digB n <;> cases decide (n = 95) <;> simp_all

theorem isLower_c (n : Int) (w : World) : Calls Tryz.prog 87 #[.int .u8 n] w fun e w' => e = .returned (.bool (lowB n)) ∧ w = w' := by
  go_enter Tryz.func87, Tryz.ntmps87
  go_wp2
  all_goals (go_returns; refine ⟨?_, rfl⟩; simp_all [lowB])
  all_goals omega
theorem isUpper_c (n : Int) (w : World) : Calls Tryz.prog 115 #[.int .u8 n] w fun e w' => e = .returned (.bool (upB n)) ∧ w = w' := by
  go_enter Tryz.func115, Tryz.ntmps115
  go_wp2
  all_goals (go_returns; refine ⟨?_, rfl⟩; simp_all [upB])
  all_goals omega
theorem isDigit_c (n : Int) (w : World) : Calls Tryz.prog 119 #[.int .u8 n] w fun e w' => e = .returned (.bool (digB n)) ∧ w = w' := by
  go_enter Tryz.func119, Tryz.ntmps119
  go_wp2
  all_goals (go_returns; refine ⟨?_, rfl⟩; simp_all [digB])
  all_goals omega
set_option maxHeartbeats 1000000 in
theorem isWord_c (n : Int) (w : World) : Calls Tryz.prog 111 #[.int .u8 n] w fun e w' => e = .returned (.bool (wordB n)) ∧ w = w' := by
  have c1 := isLower_c n w
  have c2 := isUpper_c n w
  have c3 := isDigit_c n w
  unfold wordB
  generalize lowB n = b1 at *
  generalize upB n = b2 at *
  generalize digB n = b3 at *
  have h : (n == 95) = decide (n = 95) := rfl
  cases hd : decide (n = 95) <;> rw [hd] at h <;> cases b1 <;> cases b2 <;> cases b3
  all_goals
    clear hd
    go_enter Tryz.func111, Tryz.ntmps111
    go_wp2_with (first | (go_at_call 87; ((with_reducible refine (c1).mono ?_); rintro e w1 ⟨rfl, rfl⟩)) | (go_at_call 115; ((with_reducible refine (c2).mono ?_); rintro e w1 ⟨rfl, rfl⟩)) | (go_at_call 119; ((with_reducible refine (c3).mono ?_); rintro e w1 ⟨rfl, rfl⟩)))
    go_returns
    exact ⟨rfl, rfl⟩
set_option maxHeartbeats 1000000 in
theorem l01Class_c (n : Int) (w : World) : Calls Tryz.prog 100 #[.int .u8 n] w fun e w' => e = .returned (.int .i64 (clsB n)) ∧ w = w' := by
  go_enter Tryz.func100, Tryz.ntmps100
  go_wp2
  all_goals (go_returns; refine ⟨?_, rfl⟩; simp_all [clsB, lowB, upB, digB])
  all_goals (try (intros; omega))
  all_goals (try (rw [if_neg (by omega)]))
  all_goals (try (rw [if_neg (by omega)]))
  all_goals (try (rw [if_neg (by omega)]))
  all_goals (try (rw [if_pos (by omega)]))

/-- Each byte of a text may stand in a word. -/
def allW (l : List UInt8) : Bool := l.all fun c => wordB c.toNat
theorem allW_take (s : ByteArray) (k : Nat) (h : k < s.size) : allW (s.data.toList.take (k + 1)) = (allW (s.data.toList.take k) && wordB s[k].toNat) := by
  have e : s.data.toList.take (k + 1) = s.data.toList.take k ++ [s[k]] := by
    rw [List.take_succ_eq_append_getElem (by simpa using h)]; rfl
  rw [e]
  unfold allW
  rw [List.all_append]
  simp
theorem allW_full (s : ByteArray) : s.data.toList.take s.size = s.data.toList := List.take_of_length_le (by simp)
theorem allW_bad (s : ByteArray) (k : Nat) (h : k < s.size) (hb : wordB s[k].toNat = false) : allW s.data.toList = false := by
  have h1 := allW_take s k h
  rw [hb, Bool.and_false] at h1
  cases hA : allW s.data.toList with
  | false => rfl
  | true =>
    exfalso
    unfold allW at h1 hA
    rw [List.all_eq_true] at hA
    have : (s.data.toList.take (k + 1)).all (fun c => wordB c.toNat) = true := List.all_eq_true.2 fun x hx => hA x (List.mem_of_mem_take hx)
    rw [this] at h1; cases h1
def wordOk (s : ByteArray) : Bool := allW s.data.toList && decide (1 ≤ (s.size : Int) ∧ (s.size : Int) ≤ 12)

set_option maxHeartbeats 1000000 in
theorem wordOk_c (s : ByteArray) (hs : StrOk s) (w : World) : Calls Tryz.prog 86 #[.string s] w fun e w' => e = .returned (.bool (wordOk s)) ∧ w = w' := by
  unfold StrOk at hs
  go_enter Tryz.func86, Tryz.ntmps86
  go_wp2_with fail
  go_loop [6] (fun i => ∃ k : Nat, k ≤ s.size ∧ i = .int .i64 k ∧ Hid (allW (s.data.toList.take k) = true)) (fun i => s.size - (intOf i).toNat)
  case atStart => exact ⟨0, Nat.zero_le _, rfl, rfl⟩
  case round =>
    obtain ⟨k, hk, rfl, hK⟩ := hrel
    by_cases hlt : k < s.size
    · have c1 := isWord_c (s[k].toNat : Int) w
      have h2 := Lib.hid (allW_take s k hlt)
      have h3 := Lib.hid (allW_bad s k hlt)
      generalize hq : wordB (s[k].toNat : Int) = q at *
      replace hq := Lib.hid hq
      cases q with
      | true =>
        go_wp2_with (go_at_call 111; ((with_reducible refine (c1).mono ?_); rintro e w1 ⟨rfl, rfl⟩))
        go_round
        case rel => exact ⟨k + 1, by omega, by go_num, by show _ = _; rw [h2.out, hK.out]; rfl⟩
        case measure => simp [intOf]; omega
      | false =>
        go_wp2_with (go_at_call 111; ((with_reducible refine (c1).mono ?_); rintro e w1 ⟨rfl, rfl⟩))
        go_returns
        exact ⟨by unfold wordOk; rw [h3.out trivial]; rfl, rfl⟩
    · obtain rfl : k = s.size := by omega
      go_wp2_with (go_at_call 42; ((with_reducible refine (within_c _ _ _ _).mono ?_); rintro e w1 ⟨rfl, rfl⟩))
      go_returns
      exact ⟨by unfold wordOk; rw [allW_full] at hK; rw [hK.out]; simp, rfl⟩

theorem StrOk.of_le {s : ByteArray} (h : StrOk s) : s.size ≤ 9223372036854775807 := h

/-- The first byte, 0 of an empty text. -/
def firstB (s : ByteArray) : Int := if h : 0 < s.size then (s[0]'h).toNat else 0
/-- The reference's test of a word. -/
def word01 (s : ByteArray) (first : Int) : Bool := decide (1 ≤ (s.size : Int) ∧ (s.size : Int) ≤ 12) && decide (clsB (firstB s) = first) && allW s.data.toList
set_option maxHeartbeats 1000000 in
theorem l01Word_c (s : ByteArray) (fi : Int) (hs : StrOk s) (w : World) : Calls Tryz.prog 68 #[.string s, .int .i64 fi] w fun e w' => e = .returned (.bool (word01 s fi)) ∧ w = w' := by
  unfold StrOk at hs
  by_cases h1 : 1 ≤ s.size ∧ s.size ≤ 12
  · obtain ⟨h1, h12⟩ := h1
    have h0 : 0 < s.size := by omega
    have h0' : (0 : Int) < s.size := by omega
    have d1 : decide ((s.size : Int) < 1) = false := by simp; omega
    have d2 : decide ((12 : Int) < s.size) = false := by simp; omega
    have hr : decide (1 ≤ (s.size : Int) ∧ (s.size : Int) ≤ 12) = true := by simp; omega
    have hf : firstB s = (s[0]'h0).toNat := by unfold firstB; rw [dif_pos h0]
    have c0 := l01Class_c ((s[0]'h0).toNat : Int) w
    by_cases hc : clsB ((s[0]'h0).toNat : Int) = fi
    · have hw : word01 s fi = allW s.data.toList := by unfold word01; rw [hr, hf, hc]; simp
      rw [hc] at c0
      have d3 : (fi != fi) = false := by simp
      replace hw := Lib.hid hw
      clear hc hf hr
      go_enter Tryz.func68, Tryz.ntmps68
      go_wp2_with (go_at_call 100; ((with_reducible refine (c0).mono ?_); rintro e w1 ⟨rfl, rfl⟩))
      go_loop [5] (fun i => ∃ k : Nat, k ≤ s.size ∧ i = .int .i64 k ∧ Hid (allW (s.data.toList.take k) = true)) (fun i => s.size - (intOf i).toNat)
      case atStart => exact ⟨0, Nat.zero_le _, rfl, rfl⟩
      case round =>
        obtain ⟨k, hk, rfl, hK⟩ := hrel
        by_cases hlt : k < s.size
        · have c1 := l01Class_c (s[k].toNat : Int) w
          have h2 := Lib.hid (allW_take s k hlt)
          have h3 := Lib.hid (allW_bad s k hlt)
          have h4 := clsB_zero (s[k].toNat : Int)
          generalize hq : clsB (s[k].toNat : Int) = q at *
          generalize hq' : wordB (s[k].toNat : Int) = q' at *
          replace hq := Lib.hid hq
          replace hq' := Lib.hid hq'
          have h5 : (q == 0) = !q' := h4
          clear h4
          cases q' with
          | true =>
            have h6 : (q == 0) = false := h5
            clear h5
            go_wp2_with (go_at_call 100; ((with_reducible refine (c1).mono ?_); rintro e w1 ⟨rfl, rfl⟩))
            go_round
            case rel => exact ⟨k + 1, by omega, by go_num, by show _ = _; rw [h2.out, hK.out]; rfl⟩
            case measure => simp [intOf]; omega
          | false =>
            have h6 : (q == 0) = true := h5
            clear h5
            go_wp2_with (go_at_call 100; ((with_reducible refine (c1).mono ?_); rintro e w1 ⟨rfl, rfl⟩))
            go_returns
            exact ⟨by rw [hw.out, h3.out trivial]; rfl, rfl⟩
        · obtain rfl : k = s.size := by omega
          go_wp2_with fail
          go_returns
          exact ⟨by rw [hw.out]; rw [allW_full] at hK; rw [hK.out]; rfl, rfl⟩
    · have hw : word01 s fi = false := by unfold word01; rw [hf, decide_eq_false hc]; simp
      have d3 : (clsB ((s[0]'h0).toNat : Int) != fi) = true := by simpa using hc
      replace hw := Lib.hid hw
      clear hc hf hr
      generalize clsB ((s[0]'h0).toNat : Int) = q at *
      go_enter Tryz.func68, Tryz.ntmps68
      go_wp2_with (go_at_call 100; ((with_reducible refine (c0).mono ?_); rintro e w1 ⟨rfl, rfl⟩))
      go_returns
      exact ⟨by rw [hw.out]; rfl, rfl⟩
  · have hw : word01 s fi = false := by unfold word01; rw [decide_eq_false (by omega)]; rfl
    replace hw := Lib.hid hw
    by_cases h0 : s.size < 1
    · have d1 : decide ((s.size : Int) < 1) = true := by simp; omega
      go_enter Tryz.func68, Tryz.ntmps68
      go_wp2_with fail
      go_returns
      exact ⟨by rw [hw.out]; rfl, rfl⟩
    · have d1 : decide ((s.size : Int) < 1) = false := by simp; omega
      have d2 : decide ((12 : Int) < s.size) = true := by simp; omega
      clear h1 h0
      go_enter Tryz.func68, Tryz.ntmps68
      go_wp2_with fail
      go_returns
      exact ⟨by rw [hw.out]; rfl, rfl⟩

end Go.Proofs.YtnmmfcnkpcigoaaGreat

/- ConOk of both. -/
namespace Go.Proofs.YtnmmfcnkpcigoaaGreat
open Go.RowKit
set_option linter.unusedVariables false
set_option linter.unusedSimpArgs false
attribute [local go_sem] Ext.cell

def conOk (s : ByteArray) : Bool := wordOk s && upB (firstB s)

set_option maxHeartbeats 1000000 in
theorem ConOk_c (s : ByteArray) (hs : StrOk s) (w : World) : Calls Tryz.prog 105 #[.string s] w fun e w' => e = .returned (.bool (conOk s)) ∧ w = w' := by
  have c1 := wordOk_c s hs w
  unfold StrOk at hs
  cases hw : wordOk s with
  | false =>
    rw [hw] at c1
    replace hw := Lib.hid hw
    go_enter Tryz.func105, Tryz.ntmps105
    go_wp2_with (go_at_call 86; ((with_reducible refine (c1).mono ?_); rintro e w1 ⟨rfl, rfl⟩))
    go_returns
    exact ⟨by unfold conOk; rw [hw.out]; rfl, rfl⟩
  | true =>
    rw [hw] at c1
    have h0 : 0 < s.size := by unfold wordOk at hw; simp at hw; omega
    have h0' : (0 : Int) < s.size := by omega
    have hf : firstB s = (s[0]'h0).toNat := by unfold firstB; rw [dif_pos h0]
    replace hw := Lib.hid hw
    replace hf := Lib.hid hf
    go_enter Tryz.func105, Tryz.ntmps105
    go_wp2_with (first | (go_at_call 86; ((with_reducible refine (c1).mono ?_); rintro e w1 ⟨rfl, rfl⟩)) | (go_at_call 115; ((with_reducible refine (isUpper_c _ _).mono ?_); rintro e w1 ⟨rfl, rfl⟩)))
    go_returns
    exact ⟨by unfold conOk; rw [hw.out, hf.out]; rfl, rfl⟩

theorem word01_two (s : ByteArray) : word01 s 2 = conOk s := by
  unfold word01 conOk wordOk
  rw [clsB_two]
  cases decide (1 ≤ (s.size : Int) ∧ (s.size : Int) ≤ 12) <;> cases upB (firstB s) <;> cases allW s.data.toList <;> rfl

theorem specConOk_c (s : ByteArray) (hs : StrOk s) (w : World) : Calls Tryz.prog 67 #[.string s] w fun e w' => e = .returned (.bool (conOk s)) ∧ w = w' := by
  rw [← word01_two]
  go_enter Tryz.func67, Tryz.ntmps67
  go_wp2_with (go_at_call 68; ((with_reducible refine (l01Word_c s 2 hs _).mono ?_); rintro e w1 ⟨rfl, rfl⟩))
  go_returns
  exact ⟨rfl, rfl⟩

end Go.Proofs.YtnmmfcnkpcigoaaGreat
