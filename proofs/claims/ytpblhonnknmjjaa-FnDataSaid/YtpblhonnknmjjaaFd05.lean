/- Parts of the proof, merged: Num, Num2, Num3, Quote. -/
import Derived.Laws.IdiomStrings
import Derived.RegionTactic
import Derived.Deep.LoopGhost
import Derived.Deep.RegionLaw
import Derived.IntWalk
import Derived.Test.YtpblhonnknmjjaaFd04
/- The text of a number: digits, the reversal of bytes, NumText of both. -/
namespace Go.Proofs.Ytpblhonnknmjjaa
open Go.RowKit
set_option linter.unusedVariables false
set_option linter.unusedSimpArgs false
attribute [local go_sem] Ext.cell

def bval (b : UInt8) : Value := .int .u8 b.toNat
/-- Block g begins with these bytes, which may be written. -/
def BytesAt (w : World) (g n : Nat) (f : Nat → UInt8) : Prop := ∀ j, j < n → w.cell? ⟨g, j, none⟩ = some (.int .u8 (f j).toNat) ∧ w.frozen? ⟨g, j, none⟩ = false
theorem BytesAt.set {w : World} {g n : Nat} {f : Nat → UInt8} (h : BytesAt w g n f) {o : Nat} (ho : o < n) (b : UInt8) : BytesAt (w.setCell ⟨g, o, none⟩ (.int .u8 b.toNat)) g n (fun j => if j = o then b else f j) := fun j hj => by
  refine ⟨?_, by rw [frozen_setCell]; exact (h j hj).2⟩
  dsimp only
  by_cases e : j = o
  · subst e
    rw [if_pos rfl]
    exact cell_setCell_eq _ _ _ _ (h j hj).1
  · rw [if_neg e, cell_setCell_ne _ _ _ _ _ (by omega)]
    exact (h j hj).1
theorem BytesAt.congr {w : World} {g n : Nat} {f f' : Nat → UInt8} (h : BytesAt w g n f) (e : ∀ j, j < n → f j = f' j) : BytesAt w g n f' := fun j hj => by rw [← e j hj]; exact h j hj
theorem BytesAt.drew {w : World} {g n : Nat} {f : Nat → UInt8} (h : BytesAt w g n f) : BytesAt w.drew g n f := fun j hj => h j hj

/-- Where a byte comes from when i pairs are exchanged. -/
def src (n i p : Nat) : Nat := if p < i ∨ n ≤ p + i then n - 1 - p else p

theorem src_step (f : Nat → UInt8) {n i j p : Nat} (hj : (n : Int) - 1 - i = j) (hij : i < j) (hp : p < n) :
    (if p = j then f (src n i i) else if p = i then f (src n i j) else f (src n i p)) = f (src n (i + 1) p) := by
  have h1 : src n i i = i := by unfold src; rw [if_neg (by omega)]
  have h2 : src n i j = j := by unfold src; rw [if_neg (by omega)]
  rw [h1, h2]
  by_cases e1 : p = j
  · rw [if_pos e1]; congr 1; unfold src; rw [if_pos (by omega)]; omega
  · rw [if_neg e1]
    by_cases e2 : p = i
    · rw [if_pos e2]; congr 1; unfold src; rw [if_pos (by omega)]; omega
    · rw [if_neg e2]; congr 1; unfold src
      by_cases e3 : p < i ∨ n ≤ p + i
      · rw [if_pos e3, if_pos (by omega)]
      · rw [if_neg e3, if_neg (by omega)]
theorem src_step' (f : Nat → UInt8) {n i j p : Nat} (hj : (n : Int) - 1 - i = j) (hij : i < j) (hp : p < n) :
    (if p = i then f (src n i j) else if p = j then f (src n i i) else f (src n i p)) = f (src n (i + 1) p) := by
  rw [← src_step f hj hij hp]
  by_cases e1 : p = j
  · rw [if_neg (by omega), if_pos e1, if_pos e1]
  · rw [if_neg e1, if_neg e1]

set_option maxRecDepth 100000 in
set_option maxHeartbeats 4000000 in
theorem reverseB_c (g n cap : Nat) (f : Nat → UInt8) (hn : n ≤ 1152921504606846976) (hc : n ≤ cap) (w : World) (h : BytesAt w g n f) :
    Calls Try.prog 88 #[.slice (some ⟨g, 0, none⟩) n cap] w fun e w' => e = .returned (.tuple #[]) ∧ BytesAt w' g n (fun j => f (n - 1 - j)) ∧ Below g w w' ∧ w.heap.size ≤ w'.heap.size := by
  replace h := Lib.hid h
  go_enter Try.func88, Try.ntmps88
  go_wp2_with fail
  go_loopw [2, 3] (fun a b wr => ∃ i : Nat, 2 * i ≤ n + 1 ∧ a = .int .i64 i ∧ b = .int .i64 ((n : Int) - 1 - i) ∧ Hid (BytesAt wr g n fun p => f (src n i p)) ∧ Below g w wr ∧ w.heap.size ≤ wr.heap.size) (fun a _ _ => n - (intOf a).toNat)
  case atStart => exact ⟨0, by omega, by simp, by simp, h.out.congr (fun j hj => by unfold src; rw [if_neg (by omega)]), Below.refl _ _, Nat.le_refl _⟩
  case round =>
    obtain ⟨i, hi, rfl, rfl, hB, hw, hs⟩ := hrel
    by_cases hlt : (i : Int) < (n : Int) - 1 - i
    · obtain ⟨j, hj⟩ : ∃ j : Nat, (n : Int) - 1 - i = j := ⟨n - 1 - i, by omega⟩
      rw [hj] at hlt
      have hjn : j < n := by omega
      have hin : i < n := by omega
      have hij : i < j := by omega
      obtain ⟨e1, e2⟩ := hB.out i hin
      obtain ⟨e3, e4⟩ := hB.out j hjn
      rw [hj]
      have hBi := (hB.out.set hin (f (src n i j))).set hjn (f (src n i i))
      have hBj := (hB.out.set hjn (f (src n i i))).set hin (f (src n i j))
      replace hBi := Lib.hid hBi; replace hBj := Lib.hid hBj
      replace hj := Lib.hid hj
      go_wp2_with fail
      go_region
      all_goals go_wp2_with fail
      all_goals
        go_roundw
        case rel =>
          have h := hj.out
          refine ⟨i + 1, by omega, by go_num, by congr 1; omega, ?_, by go_grown, by simpa using hs⟩
          first
            | exact hBi.out.drew.congr fun p hp => src_step f h hij hp
            | exact hBj.out.drew.congr fun p hp => src_step' f h hij hp
        case measure => simp [intOf]; omega
    · have hfin := hB.out.congr (f' := fun j => f (n - 1 - j)) fun p hp => by unfold src; congr 1; split <;> omega
      replace hfin := Lib.hid hfin
      go_wp2_with fail
      go_returns
      exact ⟨rfl, hfin.out, hw, hs⟩

end Go.Proofs.Ytpblhonnknmjjaa

/- The text of a number: the program's digits and NumText. -/
namespace Go.Proofs.Ytpblhonnknmjjaa
open Go.RowKit
set_option linter.unusedVariables false
set_option linter.unusedSimpArgs false
attribute [local go_sem] Ext.cell

/-- The digits from the last on. -/
def revd (n : Nat) : List UInt8 := if n < 10 then [dig n] else dig n :: revd (n / 10)
theorem revd_small {n : Nat} (h : n < 10) : revd n = [dig n] := by rw [revd, if_pos h]
theorem revd_step {n : Nat} (h : ¬ n < 10) : revd n = dig n :: revd (n / 10) := by conv => lhs; rw [revd, if_neg h]
theorem revd_len : ∀ (m n : Nat), n < 10 ^ (m + 1) → (revd n).length ≤ m + 1
  | 0, n, h => by rw [revd_small (by simpa using h)]; simp
  | m + 1, n, h => by
    by_cases h1 : n < 10
    · rw [revd_small h1]; simp
    · rw [revd_step h1]
      have := revd_len m (n / 10) (by rw [Nat.pow_succ] at h; omega)
      simp; omega
def numS (n : Nat) : ByteArray := ⟨(revd n).reverse.toArray⟩
theorem dig_toNat (n : Nat) : (dig n).toNat = 48 + n % 10 := by unfold dig; rw [UInt8.toNat_ofNat']; exact Nat.mod_eq_of_lt (by omega)
theorem info_u8 : (Try.prog.info? 5).map (fun i => (i.zero, i.size, i.bytes)) = some (some (.int .u8 0), 1, 1) := by kernel_rfl

/-- Digits laid and digits to come. -/
def DigSt (N k : Nat) (o : List UInt8) : Prop := (k = 0 ∧ o = revd N ∧ o ≠ []) ∨ ((0 < k ∨ o = []) ∧ o ++ revd k = revd N)
theorem DigSt.step {N k : Nat} {o : List UInt8} (h : DigSt N k o) (h0 : 0 < k ∨ o = []) : DigSt N (k / 10) (o ++ [dig k]) := by
  rcases h with ⟨h1, h2, h3⟩ | ⟨_, h2⟩
  · rcases h0 with h0 | h0
    · omega
    · exact absurd h0 h3
  · by_cases h1 : k < 10
    · rw [revd_small h1] at h2
      exact .inl ⟨by omega, h2, by simp⟩
    · rw [revd_step h1] at h2
      exact .inr ⟨.inl (by omega), by rw [List.append_assoc]; exact h2⟩
theorem DigSt.len {N k : Nat} {o : List UInt8} (h : DigSt N k o) : o.length ≤ (revd N).length := by
  rcases h with ⟨_, h2, _⟩ | ⟨_, h2⟩
  · rw [h2]; exact Nat.le_refl _
  · rw [← h2]; simp
theorem DigSt.done {N k : Nat} {o : List UInt8} (h : DigSt N k o) (h0 : k = 0) (h1 : o ≠ []) : o = revd N := by
  rcases h with ⟨_, h2, _⟩ | ⟨h2, _⟩
  · exact h2
  · rcases h2 with h2 | h2
    · omega
    · exact absurd h2 h1

theorem own_bytes {w : World} {base : Nat} {v : Value} {o : List UInt8} (h : w.ownsRow base 5 1 v o.length (o.map bval)) (h0 : 0 < o.length) :
    ∃ g cap, v = .slice (some ⟨g, 0, none⟩) o.length cap ∧ base ≤ g ∧ g < w.heap.size ∧ o.length ≤ cap ∧ cap ≤ 9223372036854775807 ∧ BytesAt w g o.length fun j => o.getD j 0 := by
  obtain ⟨g, cap, rfl, h1, h2, h3, h4, h5, h6⟩ := own_cells h h0
  refine ⟨g, cap, rfl, h1, h2, h3, h4, fun j hj => ?_⟩
  have e := h5 j (bval (o.getD j 0)) (by rw [List.getElem?_map, List.getElem?_eq_getElem hj]; simp [List.getD, List.getElem?_eq_getElem hj])
  obtain ⟨c, _, f⟩ := h6 j (by omega)
  exact ⟨by simpa [bval] using e, by simpa using f⟩

set_option maxRecDepth 100000 in
set_option maxHeartbeats 4000000 in
theorem digits_c (N : Nat) (hN : N ≤ 4611686018427387904) (w : World) :
    Calls Try.prog 73 #[.int .i64 N] w fun e w' => e = .returned (.string (numS N)) ∧ Below w.heap.size w w' := by
  have hlen : (revd N).length ≤ 19 := revd_len 18 N (by omega)
  obtain ⟨i0, hi0, hz0, hz1, hz2⟩ := info_parts info_u8
  have I := Lib.hid hi0; have I0 := Lib.hid hz0; have I1 := Lib.hid hz1; have I2 := Lib.hid hz2
  clear hi0 hz0 hz1 hz2
  go_enter Try.func73, Try.ntmps73
  go_wp2_with fail
  go_loopg [0, 3] (N + 1) (fun gg m v wr => ∃ (k : Nat) (o : List UInt8), k ≤ N ∧ m = .int .i64 k ∧ Hid (DigSt N k o) ∧ wr.ownsRow w.heap.size 5 1 v o.length (o.map bval) ∧ (∃ a c, v = .slice a o.length c) ∧ Below w.heap.size w wr ∧ k + (if o = [] then 1 else 0) ≤ gg)
  case atStart => exact ⟨N, [], Nat.le_refl _, rfl, .inr ⟨.inr rfl, by simp⟩, own_new w #[] 5 1 0 rfl (by unfold maxLen; omega) _ (Nat.le_refl _), ⟨_, _, rfl⟩, by go_grown, by simp⟩
  case round =>
    obtain ⟨k, o, hk, rfl, hD, O, ⟨a, c, rfl⟩, hw, hg⟩ := hrel
    have hz := hw.size
    have hol := hD.out.len
    by_cases h0 : 0 < k ∨ o = []
    · have hst := hD.out.step h0
      have h0' := h0
      have hb : bval (dig k) = .int .u8 (48 + (k : Int) % 10) := by unfold bval; rw [dig_toNat]; simp
      have hb2 : (o ++ [dig k]).map bval = o.map bval ++ [.int .u8 (48 + (k : Int) % 10)] := by rw [List.map_append]; simp [hb]
      have hg2 : ∀ x, k + (if o = [] then 1 else 0) ≤ x → k / 10 + (if o ++ [dig k] = [] then 1 else 0) < x := by
        intro x hg
        rw [if_neg (by simp)]
        by_cases hk0 : 0 < k
        · have : k / 10 < k := by omega
          omega
        · rw [if_pos (by rcases h0 with h | h; exact absurd h hk0; exact h)] at hg; omega
      replace hg2 := Lib.hid hg2; replace hb2 := Lib.hid hb2; replace hst := Lib.hid hst; replace O := Lib.hid O
      clear hb
      replace hg := Lib.hid hg
      clear h0
      by_cases hk0 : 0 < k
      · have hd : decide ((0 : Int) < (k : Int)) = true := decide_eq_true (by omega)
        go_wp2_with (at_builtin; refine wpList_append_lies _ rfl _ _ _ rfl w.heap.size 5 i0 _ 1 1 Try.underlying22 I.out I0.out I1.out I2.out rfl (by omega) (.slice a o.length c) o.length (o.map bval) rfl (own_below O.out (by go_grown)) ⟨wr.heap.size, 0, none⟩ 1 1 [.int .u8 (48 + (k : Int) % 10)] rfl rfl (World.news_of_block (cs := #[.int .u8 (48 + (k : Int) % 10)]) (t := 5) (fr := (0, 0)) (heap_alloc_new' _ _ _ (by simp))) (by intro u hu; simp at hu; subst hu; rfl) (by omega) (by unfold maxLen; omega) (by omega) (by simp; omega) _ rfl ?_; intro g cap w2 hown hgrow hat hlt2)
        have hw2 := below_grown2 (wr := wr) hgrow (by go_grown) hw hz O.out
        rw [← hb2.out] at hown
        go_roundg (k / 10 + (if o ++ [dig k] = [] then 1 else 0))
        case measure => exact hg2.out _ hg.out
        case rel => exact ⟨k / 10, o ++ [dig k], by omega, by go_num, hst.out, by simpa using hown, ⟨some ⟨g, 0, none⟩, cap, by simp⟩, hw2, Nat.le_refl _⟩
      · obtain rfl : k = 0 := by omega
        obtain rfl : o = [] := by rcases h0' with h | h; exact absurd h hk0; exact h
        replace O : Hid (wr.ownsRow w.heap.size 5 1 (.slice a 0 c) 0 []) := O
        replace hb2 : Hid (([] ++ [dig 0]).map bval = [.int .u8 48]) := rfl
        clear hk0
        simp only [List.length_nil]
        go_wp2_with (at_builtin; refine wpList_append_lies _ rfl _ _ _ rfl w.heap.size 5 i0 _ 1 1 Try.underlying22 I.out I0.out I1.out I2.out rfl (by omega) (.slice a 0 c) 0 [] rfl (own_below O.out (by go_grown)) ⟨wr.heap.size, 0, none⟩ 1 1 [.int .u8 48] rfl rfl (World.news_of_block (cs := #[.int .u8 48]) (t := 5) (fr := (0, 0)) (heap_alloc_new' _ _ _ (by simp))) (by intro u hu; simp at hu; subst hu; rfl) (by omega) (by unfold maxLen; omega) (by omega) (by simp; omega) _ rfl ?_; intro g cap w2 hown hgrow hat hlt2)
        have hw2 := below_grown2 (wr := wr) hgrow (by go_grown) hw hz O.out
        replace hown : w2.ownsRow w.heap.size 5 1 (.slice (some ⟨g, 0, none⟩) 1 cap) 1 (([] ++ [dig 0]).map bval) := by rw [hb2.out]; simpa using hown
        go_roundg (0 / 10 + (if [] ++ [dig 0] = [] then 1 else 0))
        case measure => exact hg2.out _ hg.out
        case rel => exact ⟨0, [] ++ [dig 0], by omega, by first | rfl | go_num, hst.out, hown, ⟨some ⟨g, 0, none⟩, cap, by simp⟩, hw2, Nat.le_refl _⟩
    · have hk0 : k = 0 := by omega
      have ho : o ≠ [] := fun h => h0 (.inr h)
      have hfin := hD.out.done hk0 ho
      subst hk0
      subst hfin
      obtain ⟨g, cap, hv, h1, h2, h3, h4, hB⟩ := own_bytes O (List.length_pos_iff.2 ho)
      obtain ⟨rfl, rfl⟩ : a = some ⟨g, 0, none⟩ ∧ c = cap := by injection hv with e1 e2 e3; exact ⟨e1, e3⟩
      obtain ⟨n, hn⟩ : ∃ n, n = (revd N).length := ⟨_, rfl⟩
      rw [← hn] at hB h3 hol
      have hn0 : 0 < n := by rw [hn]; exact List.length_pos_iff.2 ho
      have hc := reverseB_c g n c _ (by omega) h3 wr hB
      have hd2 : ((n : Int) == 0) = false := by simp; omega
      rw [← hn]
      replace hn := Lib.hid hn
      clear hD O hv ho h0 hB hg
      go_wp2_with fail
      refine hc.mono ?_
      rintro e w2 ⟨rfl, hB2, hb, hs2⟩
      have hrun := run_convert_bytes_back (P := Try.prog) w2 22 9 5 ⟨g, 0, none⟩ c (revd N).reverse Try.underlying22 Try.underlying5 Try.underlying9 (fun j hj => by
        have hj' : j < (revd N).length := by simpa using hj
        have := (hB2 j (by rw [hn.out]; exact hj')).1
        rw [show (Addr.add ⟨g, 0, none⟩ j) = ⟨g, j, none⟩ by (unfold Addr.add; split <;> simp_all), this, hn.out]
        rw [List.getElem_reverse]
        simp only [List.getD]
        rw [List.getElem?_eq_getElem (by omega)]
        simp)
      rw [List.length_reverse, ← hn.out] at hrun
      clear hc hB2
      go_wp2_with fail
      go_returns
      exact ⟨rfl, hw.trans (hb.mono h1)⟩

end Go.Proofs.Ytpblhonnknmjjaa

/- The text of a number: the reference's digits; NumText of both. -/
namespace Go.Proofs.Ytpblhonnknmjjaa
open Go.RowKit
set_option linter.unusedVariables false
set_option linter.unusedSimpArgs false
attribute [local go_sem] Ext.cell

theorem conv1 (W : World) (g k : Nat) (x : Int) (hx : x = 48 + (k : Int) % 10) (h : W.cell? ⟨g, 0, none⟩ = some (.int .u8 x)) : (convert 22 9 (Value.slice (some ⟨g, 0, none⟩) 1 1)).run Try.prog W = .ok (.string ⟨#[dig k]⟩) W := by
  refine run_convert_bytes_back (P := Try.prog) _ 22 9 5 ⟨g, 0, none⟩ 1 [dig k] Try.underlying22 Try.underlying5 Try.underlying9 (fun j hj => ?_)
  obtain rfl : j = 0 := by simp at hj; exact hj
  have e : (dig k).toNat = 48 + k % 10 := dig_toNat k
  show W.cell? ⟨g, 0, none⟩ = some (.int .u8 ((dig k).toNat : Int))
  rw [h, hx, e]
  simp

theorem numS_small {N : Nat} (h : N < 10) : numS N = ⟨#[dig N]⟩ := by unfold numS; rw [revd_small h]; rfl
theorem numS_step {N : Nat} (h : ¬ N < 10) : numS N = numS (N / 10) ++ ⟨#[dig N]⟩ := by
  apply ByteArray.ext
  apply Array.ext'
  unfold numS
  rw [revd_step h]
  simp

set_option maxRecDepth 100000 in
set_option maxHeartbeats 4000000 in
theorem l01Digits_small (N : Nat) (hN : N < 10) (w : World) :
    Calls Try.prog 75 #[.int .i64 (-(N : Int))] w fun e w' => e = .returned (.string (numS N)) ∧ Below w.heap.size w w' := by
  rw [numS_small hN]
  have hrun := conv1 (w.alloc (.cells #[.int .u8 (48 + (N : Int))] 5)) w.heap.size N (48 + (N : Int)) (by omega) (by simp [go_sem])
  have d1 : decide (-10 < -(N : Int)) = true := decide_eq_true (by omega)
  go_enter Try.func75, Try.ntmps75
  go_wp2_with fail
  go_returns
  exact ⟨rfl, by go_grown⟩

set_option maxRecDepth 100000 in
set_option maxHeartbeats 4000000 in
theorem l01Digits_c : ∀ (N : Nat), N ≤ 4611686018427387904 → ∀ (w : World),
    Calls Try.prog 75 #[.int .i64 (-(N : Int))] w fun e w' => e = .returned (.string (numS N)) ∧ Below w.heap.size w w' := by
  intro N
  induction N using Nat.strongRecOn with
  | _ N ih =>
    intro hN w
    by_cases h : N < 10
    · exact l01Digits_small N h w
    · have hc := fun W => ih (N / 10) (by omega) (by omega) W
      rw [numS_step h]
      clear ih
      have hlen : (numS (N / 10)).size ≤ 19 := by
        have := revd_len 18 (N / 10) (by omega)
        show (revd (N / 10)).reverse.toArray.size ≤ 19
        simpa using this
      generalize numS (N / 10) = sN at *
      have hq : (-(N : Int)).tdiv 10 = -((N / 10 : Nat) : Int) := by rw [Int.neg_tdiv, Int.tdiv_eq_ediv_of_nonneg (by omega)]; simp
      have hr : (-(N : Int)).tmod 10 = -((N % 10 : Nat) : Int) := by rw [Int.neg_tmod, Int.tmod_eq_emod_of_nonneg (by omega)]; simp
      have d1 : decide (-10 < -(N : Int)) = false := decide_eq_false (by omega)
      have hc : ∀ W, Calls Try.prog 75 #[.int .i64 (-((N : Int) / 10))] W fun e w' => e = .returned (.string sN) ∧ Below W.heap.size W w' := fun W => by have h := hc W; rw [show ((N / 10 : Nat) : Int) = (N : Int) / 10 by simp] at h; exact h
      replace hc := Lib.hid hc
      have q1 : IntKind.i64.wrap (-((N : Int) / 10)) = -((N : Int) / 10) := IntWalk.i64_in _ ⟨by omega, by omega⟩
      have q2 : IntKind.i64.wrap (48 + (N : Int) % 10) = 48 + (N : Int) % 10 := IntWalk.i64_in _ ⟨by omega, by omega⟩
      have q3 : IntKind.u8.wrap (48 + (N : Int) % 10) = 48 + (N : Int) % 10 := IntWalk.u8_in _ ⟨by omega, by omega⟩
      have hr2 : (N : Int).tmod 10 = (N : Int) % 10 := Int.tmod_eq_emod_of_nonneg (by omega)
      have hcv := fun (W : World) (g : Nat) => conv1 W g N (48 + (N : Int) % 10) rfl
      have hl : sN.size + 1 ≤ 9223372036854775807 := by omega
      have hl2 : (9223372036854775807 < sN.size + 1) = False := by simp; omega
      clear hq hr hlen hN
      go_enter Try.func75, Try.ntmps75
      go_wp2_with fail
      go_region_law ((go_simp; go_at_call 75; ((with_reducible refine (hc.out _).mono ?_); rintro e w1 ⟨rfl, hb⟩; (first | (refine (fun (e1 : w1.cell? ⟨w.heap.size, 0, none⟩ = some (.int .u8 (48 + (N : Int) % 10))) => ?_) ?_; rotate_left; focus (refine cell_below hb ?_; simp [go_sem]; done)) | skip))))
      all_goals go_wp2_with fail
      all_goals go_returns
      all_goals have hB : Below w.heap.size w w1 := Below.trans (by go_grown) (hb.mono (by simp))
      all_goals have hs1 := hB.size
      all_goals exact ⟨rfl, by go_grown⟩

/-- The text of a number of 63 bits; of others none. -/
def numText (n : Int) : ByteArray := if -4611686018427387904 ≤ n ∧ n ≤ 4611686018427387903 then (if n < 0 then ⟨#[45]⟩ ++ numS n.natAbs else numS n.natAbs) else ByteArray.empty
theorem numS_len (N : Nat) (h : N ≤ 4611686018427387904) : (numS N).size ≤ 19 := by
  have := revd_len 18 N (by omega)
  show (revd N).reverse.toArray.size ≤ 19
  simpa using this

set_option maxHeartbeats 4000000 in
theorem impl_NumText_c (n : Int) (hi : I64 n) (w : World) :
    Calls Try.prog 48 #[.int .i64 n] w fun e w' => e = .returned (.string (numText n)) ∧ Below w.heap.size w w' := by
  obtain ⟨hi0, hi1⟩ := hi
  have W1 := fun W => within_c n (-4611686018427387904) 4611686018427387903 W
  unfold numText
  by_cases h : -4611686018427387904 ≤ n ∧ n ≤ 4611686018427387903
  · rw [decide_eq_true h] at W1
    rw [if_pos h]
    by_cases hn : n < 0
    · obtain ⟨N, rfl⟩ : ∃ N : Nat, n = -(N : Int) := ⟨n.natAbs, by omega⟩
      rw [if_pos hn, Int.natAbs_neg, Int.natAbs_natCast]
      have c1 := fun W => digits_c N (by omega) W
      have hl := numS_len N (by omega)
      generalize numS N = sN at *
      have hl2 : (9223372036854775807 < 1 + sN.size) = False := by simp; omega
      have d1 : decide (-(N : Int) < 0) = true := decide_eq_true hn
      have hn1 : (N : Int) ≤ 9223372036854775807 := by omega
      have hn2 : 0 < N := by omega
      clear h hi0 hi1 hn
      go_enter Try.func48, Try.ntmps48
      go_wp2_with (first | (go_at_call 41; ((with_reducible refine (W1 _).mono ?_); rintro e w1 ⟨rfl, rfl⟩)) | (go_at_call 73; ((with_reducible refine (c1 _).mono ?_); rintro e w1 ⟨rfl, hb⟩)))
      go_returns
      exact ⟨rfl, hb⟩
    · obtain ⟨N, rfl⟩ : ∃ N : Nat, n = N := ⟨n.natAbs, by omega⟩
      rw [if_neg hn, Int.natAbs_natCast]
      have c1 := fun W => digits_c N (by omega) W
      generalize numS N = sN at *
      have d1 : decide ((N : Int) < 0) = false := decide_eq_false hn
      have hn1 : (N : Int) ≤ 9223372036854775807 := by omega
      clear h hi0 hi1
      go_enter Try.func48, Try.ntmps48
      go_wp2_with (first | (go_at_call 41; ((with_reducible refine (W1 _).mono ?_); rintro e w1 ⟨rfl, rfl⟩)) | (go_at_call 73; ((with_reducible refine (c1 _).mono ?_); rintro e w1 ⟨rfl, hb⟩)))
      go_returns
      exact ⟨rfl, hb⟩
  · rw [decide_eq_false h] at W1
    rw [if_neg h]
    clear h
    go_enter Try.func48, Try.ntmps48
    go_wp2_with (go_at_call 41; ((with_reducible refine (W1 _).mono ?_); rintro e w1 ⟨rfl, rfl⟩))
    go_returns
    exact ⟨rfl, Below.refl _ _⟩

set_option maxHeartbeats 4000000 in
theorem spec_NumText_c (n : Int) (hi : I64 n) (w : World) :
    Calls Try.prog 50 #[.int .i64 n] w fun e w' => e = .returned (.string (numText n)) ∧ Below w.heap.size w w' := by
  have W1 := fun W => Wrap_c n hi W
  obtain ⟨hi0, hi1⟩ := hi
  unfold numText
  by_cases h : -4611686018427387904 ≤ n ∧ n ≤ 4611686018427387903
  · rw [(wrap63_eq n).2 h] at W1
    rw [if_pos h]
    have d0 : (n != n) = false := by simp
    by_cases hn : n < 0
    · obtain ⟨N, rfl⟩ : ∃ N : Nat, n = -(N : Int) := ⟨n.natAbs, by omega⟩
      rw [if_pos hn, Int.natAbs_neg, Int.natAbs_natCast]
      have c1 := fun W => l01Digits_c N (by omega) W
      have hl := numS_len N (by omega)
      generalize numS N = sN at *
      have hl2 : (9223372036854775807 < 1 + sN.size) = False := by simp; omega
      have d1 : decide (-(N : Int) < 0) = true := decide_eq_true hn
      have hn1 : (N : Int) ≤ 9223372036854775807 := by omega
      have hn2 : 0 < N := by omega
      clear h hi0 hi1 hn
      go_enter Try.func50, Try.ntmps50
      go_wp2_with (first | (go_at_call 23; ((with_reducible refine (W1 _).mono ?_); rintro e w1 ⟨rfl, rfl⟩)) | (go_at_call 75; ((with_reducible refine (c1 _).mono ?_); rintro e w1 ⟨rfl, hb⟩)))
      go_returns
      exact ⟨rfl, hb⟩
    · obtain ⟨N, rfl⟩ : ∃ N : Nat, n = N := ⟨n.natAbs, by omega⟩
      rw [if_neg hn, Int.natAbs_natCast]
      have c1 := fun W => l01Digits_c N (by omega) W
      generalize numS N = sN at *
      have d1 : decide ((N : Int) < 0) = false := decide_eq_false hn
      have hn1 : (N : Int) ≤ 9223372036854775807 := by omega
      clear h hi0 hi1
      go_enter Try.func50, Try.ntmps50
      go_wp2_with (first | (go_at_call 23; ((with_reducible refine (W1 _).mono ?_); rintro e w1 ⟨rfl, rfl⟩)) | (go_at_call 75; ((with_reducible refine (c1 _).mono ?_); rintro e w1 ⟨rfl, hb⟩)))
      go_returns
      exact ⟨rfl, hb⟩
  · rw [if_neg h]
    have d0 : (wrap63 n != n) = true := by simp [wrap63_eq]; omega
    generalize wrap63 n = wn at *
    clear h
    go_enter Try.func50, Try.ntmps50
    go_wp2_with (go_at_call 23; ((with_reducible refine (W1 _).mono ?_); rintro e w1 ⟨rfl, rfl⟩))
    go_returns
    exact ⟨rfl, Below.refl _ _⟩

end Go.Proofs.Ytpblhonnknmjjaa

/- The text of a string in quotes: plain law; the program's Quote. -/
namespace Go.Proofs.Ytpblhonnknmjjaa
open Go.RowKit
set_option linter.unusedVariables false
set_option linter.unusedSimpArgs false
attribute [local go_sem] Ext.cell

def hxI (z : Int) : Int := if z < 10 then 48 + z else 87 + z
def hxB (d : Nat) : UInt8 := UInt8.ofNat (hxI d).toNat
/-- A byte in quotes. -/
def quoteB (b : UInt8) : List UInt8 :=
  if (b.toNat : Int) = 10 then [92, 110] else if (b.toNat : Int) = 34 ∨ (b.toNat : Int) = 92 then [92, b] else if 32 ≤ (b.toNat : Int) ∧ (b.toNat : Int) ≤ 126 then [b] else [92, 120, hxB (b.toNat / 16), hxB (b.toNat % 16)]
def quoteL (l : List UInt8) : List UInt8 := 34 :: l.flatMap quoteB
def quoteS (s : ByteArray) : ByteArray := ⟨(quoteL s.data.toList ++ [34]).toArray⟩
theorem quoteB_len (b : UInt8) : (quoteB b).length ≤ 4 ∧ 0 < (quoteB b).length := by
  unfold quoteB
  split
  · simp
  · split
    · simp
    · split <;> simp
theorem quoteL_len (l : List UInt8) : (quoteL l).length ≤ 4 * l.length + 1 := by
  unfold quoteL
  induction l with
  | nil => simp
  | cons a l ih =>
    have := (quoteB_len a).1
    simp at *
    omega
theorem quoteL_take (s : ByteArray) (k : Nat) (h : k < s.size) : quoteL (s.data.toList.take (k + 1)) = quoteL (s.data.toList.take k) ++ quoteB s[k] := by
  have e : s.data.toList.take (k + 1) = s.data.toList.take k ++ [s[k]] := by
    rw [List.take_succ_eq_append_getElem (by simpa using h)]; rfl
  rw [e]
  unfold quoteL
  simp
theorem hx_range {z : Int} (h0 : 0 ≤ z) (h1 : z ≤ 15) : 48 ≤ hxI z ∧ hxI z ≤ 102 := by unfold hxI; split <;> omega
theorem hxB_val (d : Nat) (h : d ≤ 15) : bval (hxB d) = .int .u8 (hxI d) := by
  have := hx_range (z := d) (by omega) (by omega)
  unfold bval hxB
  rw [UInt8.toNat_ofNat', Nat.mod_eq_of_lt (by omega)]
  congr 1
  omega

set_option maxHeartbeats 1000000 in
theorem hexDigit_c (z : Int) (h0 : 0 ≤ z) (h1 : z ≤ 15) (w : World) : Calls Try.prog 74 #[.int .u8 z] w fun e w' => e = .returned (.int .u8 (hxI z)) ∧ w = w' := by
  by_cases h : z < 10
  · have e : hxI z = 48 + z := by unfold hxI; rw [if_pos h]
    rw [e]
    clear e
    go_enter Try.func74, Try.ntmps74
    go_wp2
    go_returns
    exact ⟨rfl, rfl⟩
  · have e : hxI z = 97 + z - 10 := by unfold hxI; rw [if_neg h]; omega
    rw [e]
    clear e
    go_enter Try.func74, Try.ntmps74
    go_wp2
    go_returns
    exact ⟨rfl, rfl⟩

/-- The bytes that the call owns, as a string. -/
theorem conv_own {w : World} {base g n cap : Nat} {l : List UInt8} (h : w.ownsRow base 5 1 (.slice (some ⟨g, 0, none⟩) n cap) n (l.map bval)) (hn : n = l.length) :
    (convert 22 9 (Value.slice (some ⟨g, 0, none⟩) n cap)).run Try.prog w = .ok (.string ⟨l.toArray⟩) w := by
  subst hn
  refine run_convert_bytes_back (P := Try.prog) w 22 9 5 ⟨g, 0, none⟩ cap l Try.underlying22 Try.underlying5 Try.underlying9 (fun j hj => ?_)
  obtain ⟨g', cap', hv, _, _, _, _, hB⟩ := own_bytes h (by omega)
  obtain ⟨rfl, rfl⟩ : g = g' ∧ cap = cap' := by injection hv with e1 e2 e3; injection e1 with e1; injection e1 with e1; exact ⟨e1, e3⟩
  rw [show (Addr.add ⟨g, 0, none⟩ j) = ⟨g, j, none⟩ by (unfold Addr.add; split <;> simp_all), (hB j hj).1]
  simp [List.getD, List.getElem?_eq_getElem hj]

set_option maxRecDepth 100000 in
set_option maxHeartbeats 8000000 in
theorem impl_Quote_c (s : ByteArray) (hs : s.size ≤ 1099511627776) (w : World) :
    Calls Try.prog 49 #[.string s] w fun e w' => e = .returned (.string (quoteS s)) ∧ Below w.heap.size w w' := by
  obtain ⟨i0, hi0, hz0, hz1, hz2⟩ := info_parts info_u8
  have I := Lib.hid hi0; have I0 := Lib.hid hz0; have I1 := Lib.hid hz1; have I2 := Lib.hid hz2
  clear hi0 hz0 hz1 hz2
  go_enter Try.func49, Try.ntmps49
  go_wp2_with fail
  go_loopw [3, 9] (fun v i wr => ∃ (k n g cap : Nat), k ≤ s.size ∧ i = .int .i64 k ∧ v = .slice (some ⟨g, 0, none⟩) n cap ∧ Hid (n = (quoteL (s.data.toList.take k)).length) ∧ n ≤ 4 * k + 1 ∧ wr.ownsRow w.heap.size 5 1 v n ((quoteL (s.data.toList.take k)).map bval) ∧ Below w.heap.size w wr) (fun _ i _ => s.size - (intOf i).toNat)
  case atStart => exact ⟨0, 1, w.heap.size, 1, by omega, rfl, rfl, rfl, by omega, own_new w #[.int .u8 34] 5 1 1 rfl (by unfold maxLen; omega) _ (Nat.le_refl _), by go_grown⟩
  case round =>
    obtain ⟨k, n, g, cap, hk, rfl, rfl, hn, hnk, O, hw⟩ := hrel
    have hz := hw.size
    by_cases hlt : k < s.size
    · have hst := quoteL_take s k hlt
      have hq4 := quoteB_len s[k]
      have hb0 : (0 : Int) ≤ (s[k].toNat : Int) := by omega
      have hb1 : (s[k].toNat : Int) ≤ 255 := by have := s[k].toNat_lt; omega
      have hqv : (quoteB s[k]).map bval = (if (s[k].toNat : Int) = 10 then [.int .u8 92, .int .u8 110] else if (s[k].toNat : Int) = 34 ∨ (s[k].toNat : Int) = 92 then [.int .u8 92, .int .u8 (s[k].toNat : Int)] else if 32 ≤ (s[k].toNat : Int) ∧ (s[k].toNat : Int) ≤ 126 then [.int .u8 (s[k].toNat : Int)] else [.int .u8 92, .int .u8 120, .int .u8 (hxI ((s[k].toNat : Int) / 16)), .int .u8 (hxI ((s[k].toNat : Int) % 16))]) := by
        have hlt := s[k].toNat_lt
        have e1 := hxB_val (s[k].toNat / 16) (by omega)
        have e2 := hxB_val (s[k].toNat % 16) (by omega)
        unfold quoteB
        split
        · rfl
        · split
          · rfl
          · split
            · rfl
            · simp only [List.map_cons, List.map_nil, e1, e2]
              simp [bval]
      have hfin : ∀ (news : List Value), (quoteB s[k]).map bval = news → (quoteL (s.data.toList.take (k + 1))).map bval = (quoteL (s.data.toList.take k)).map bval ++ news ∧ (quoteL (s.data.toList.take (k + 1))).length = n + news.length := fun news h => by
        rw [hst, List.map_append, h, List.length_append, hn.out, ← h, List.length_map]
        exact ⟨rfl, rfl⟩
      clear hst hq4
      replace O := Lib.hid O
      by_cases h1 : (s[k].toNat : Int) = 10
      · have hnew := Lib.hid (hfin _ (hqv.trans (if_pos h1)))
        clear hqv hfin
        have d1 : ((s[k].toNat : Int) == 10) = true := by rw [h1]; rfl
        clear h1
        go_wp2_with (at_builtin; refine wpList_append_lies _ rfl _ _ _ rfl w.heap.size 5 i0 _ 1 1 Try.underlying22 I.out I0.out I1.out I2.out rfl (by omega) (.slice (some ⟨g, 0, none⟩) n cap) n ((quoteL (s.data.toList.take k)).map bval) rfl (own_below O.out (by go_grown)) ⟨wr.heap.size, 0, none⟩ 2 2 [.int .u8 92, .int .u8 110] rfl rfl (World.news_of_block (cs := #[.int .u8 92, .int .u8 110]) (t := 5) (fr := (0, 0)) (heap_alloc_new' _ _ _ (by simp))) (by intro u hu; simp at hu; (first | (subst hu; rfl) | (rcases hu with rfl | rfl <;> rfl) | (rcases hu with rfl | rfl | rfl | rfl <;> rfl))) (by omega) (by unfold maxLen; omega) (by omega) (by simp; omega) _ rfl ?_; intro g' cap' w2 hown hgrow hat hlt2)
        have hw2 := below_grown2 (wr := wr) hgrow (by go_grown) hw hz O.out
        go_roundw
        case rel => exact ⟨k + 1, n + 2, g', cap', by omega, by go_num, rfl, hnew.out.2.symm, by omega, by rw [hnew.out.1]; exact hown, hw2⟩
        case measure => simp [intOf]; omega
      · by_cases h2 : (s[k].toNat : Int) = 34 ∨ (s[k].toNat : Int) = 92
        · have hnew := Lib.hid (hfin _ (hqv.trans ((if_neg h1).trans (if_pos h2))))
          clear hqv hfin
          have d1 : ((s[k].toNat : Int) == 10) = false := by simpa using h1
          have d2 : ((s[k].toNat : Int) == 34) = true ∨ (((s[k].toNat : Int) == 34) = false ∧ ((s[k].toNat : Int) == 92) = true) := by rcases h2 with h | h <;> simp [h]
          clear h1 h2
          rcases d2 with d2 | ⟨d2, d3⟩
          all_goals
            go_wp2_with (at_builtin; refine wpList_append_lies _ rfl _ _ _ rfl w.heap.size 5 i0 _ 1 1 Try.underlying22 I.out I0.out I1.out I2.out rfl (by omega) (.slice (some ⟨g, 0, none⟩) n cap) n ((quoteL (s.data.toList.take k)).map bval) rfl (own_below O.out (by go_grown)) ⟨wr.heap.size, 0, none⟩ 2 2 [.int .u8 92, .int .u8 (s[k].toNat : Int)] rfl rfl (World.news_of_block (cs := #[.int .u8 92, .int .u8 (s[k].toNat : Int)]) (t := 5) (fr := (0, 0)) (heap_alloc_new' _ _ _ (by simp))) (by intro u hu; simp at hu; (first | (subst hu; rfl) | (rcases hu with rfl | rfl <;> rfl) | (rcases hu with rfl | rfl | rfl | rfl <;> rfl))) (by omega) (by unfold maxLen; omega) (by omega) (by simp; omega) _ rfl ?_; intro g' cap' w2 hown hgrow hat hlt2)
            have hw2 := below_grown2 (wr := wr) hgrow (by go_grown) hw hz O.out
            go_roundw
            case rel => exact ⟨k + 1, n + 2, g', cap', by omega, by go_num, rfl, hnew.out.2.symm, by omega, by rw [hnew.out.1]; exact hown, hw2⟩
            case measure => simp [intOf]; omega
        · by_cases h3 : 32 ≤ (s[k].toNat : Int) ∧ (s[k].toNat : Int) ≤ 126
          · have hnew := Lib.hid (hfin _ (hqv.trans ((if_neg h1).trans ((if_neg h2).trans (if_pos h3)))))
            clear hqv hfin
            have d1 : ((s[k].toNat : Int) == 10) = false := by simpa using h1
            have d2 : ((s[k].toNat : Int) == 34) = false := by simp; omega
            have d3 : ((s[k].toNat : Int) == 92) = false := by simp; omega
            obtain ⟨d4, d5⟩ := h3
            clear h1 h2
            go_wp2_with (at_builtin; refine wpList_append_lies _ rfl _ _ _ rfl w.heap.size 5 i0 _ 1 1 Try.underlying22 I.out I0.out I1.out I2.out rfl (by omega) (.slice (some ⟨g, 0, none⟩) n cap) n ((quoteL (s.data.toList.take k)).map bval) rfl (own_below O.out (by go_grown)) ⟨wr.heap.size, 0, none⟩ 1 1 [.int .u8 (s[k].toNat : Int)] rfl rfl (World.news_of_block (cs := #[.int .u8 (s[k].toNat : Int)]) (t := 5) (fr := (0, 0)) (heap_alloc_new' _ _ _ (by simp))) (by intro u hu; simp at hu; (first | (subst hu; rfl) | (rcases hu with rfl | rfl <;> rfl) | (rcases hu with rfl | rfl | rfl | rfl <;> rfl))) (by omega) (by unfold maxLen; omega) (by omega) (by simp; omega) _ rfl ?_; intro g' cap' w2 hown hgrow hat hlt2)
            have hw2 := below_grown2 (wr := wr) hgrow (by go_grown) hw hz O.out
            go_roundw
            case rel => exact ⟨k + 1, n + 1, g', cap', by omega, by go_num, rfl, hnew.out.2.symm, by omega, by rw [hnew.out.1]; exact hown, hw2⟩
            case measure => simp [intOf]; omega
          · have hnew := Lib.hid (hfin _ (hqv.trans ((if_neg h1).trans ((if_neg h2).trans (if_neg h3)))))
            clear hqv hfin
            have d1 : ((s[k].toNat : Int) == 10) = false := by simpa using h1
            have d2 : ((s[k].toNat : Int) == 34) = false := by simp; omega
            have d3 : ((s[k].toNat : Int) == 92) = false := by simp; omega
            have d4 : (s[k].toNat : Int) < 32 ∨ (32 ≤ (s[k].toNat : Int) ∧ 126 < (s[k].toNat : Int)) := by omega
            clear h1 h2 h3
            rcases d4 with d4 | ⟨d4, d5⟩
            all_goals
              go_wp2_with (first | (at_builtin; refine wpList_append_lies _ rfl _ _ _ rfl w.heap.size 5 i0 _ 1 1 Try.underlying22 I.out I0.out I1.out I2.out rfl (by omega) (.slice (some ⟨g, 0, none⟩) n cap) n ((quoteL (s.data.toList.take k)).map bval) rfl (own_below O.out (by go_grown)) ⟨wr.heap.size, 0, none⟩ 4 4 [.int .u8 92, .int .u8 120, .int .u8 (hxI ((s[k].toNat : Int) / 16)), .int .u8 (hxI ((s[k].toNat : Int) % 16))] rfl rfl (World.news_of_block (cs := #[.int .u8 92, .int .u8 120, .int .u8 (hxI ((s[k].toNat : Int) / 16)), .int .u8 (hxI ((s[k].toNat : Int) % 16))]) (t := 5) (fr := (0, 0)) (heap_alloc_new' _ _ _ (by simp))) (by intro u hu; simp at hu; (first | (subst hu; rfl) | (rcases hu with rfl | rfl <;> rfl) | (rcases hu with rfl | rfl | rfl | rfl <;> rfl))) (by omega) (by unfold maxLen; omega) (by omega) (by simp; omega) _ rfl ?_; intro g' cap' w2 hown hgrow hat hlt2) | (go_at_call 74; ((with_reducible refine (hexDigit_c _ (by omega) (by omega) _).mono ?_); rintro e w1 ⟨rfl, rfl⟩)))
              have hw2 := below_grown2 (wr := wr) hgrow (by go_grown) hw hz O.out
              go_roundw
              case rel => exact ⟨k + 1, n + 4, g', cap', by omega, by go_num, rfl, hnew.out.2.symm, by omega, by rw [hnew.out.1]; exact hown, hw2⟩
              case measure => simp [intOf]; omega
    · obtain rfl : k = s.size := by omega
      have hfull : s.data.toList.take s.size = s.data.toList := allW_full s
      rw [hfull] at hn O
      have hq : quoteS s = ⟨(quoteL s.data.toList ++ [34]).toArray⟩ := rfl
      replace O := Lib.hid O
      replace hq := Lib.hid hq
      clear hfull
      go_wp2_with (at_builtin; refine wpList_append_lies _ rfl _ _ _ rfl w.heap.size 5 i0 _ 1 1 Try.underlying22 I.out I0.out I1.out I2.out rfl (by omega) (.slice (some ⟨g, 0, none⟩) n cap) n ((quoteL s.data.toList).map bval) rfl (own_below O.out (by go_grown)) ⟨wr.heap.size, 0, none⟩ 1 1 [.int .u8 34] rfl rfl (World.news_of_block (cs := #[.int .u8 34]) (t := 5) (fr := (0, 0)) (heap_alloc_new' _ _ _ (by simp))) (by intro u hu; simp at hu; (first | (subst hu; rfl) | (rcases hu with rfl | rfl <;> rfl) | (rcases hu with rfl | rfl | rfl | rfl <;> rfl))) (by omega) (by unfold maxLen; omega) (by omega) (by simp; omega) _ rfl ?_; intro g' cap' w2 hown hgrow hat hlt2; have hrun := conv_own (l := quoteL s.data.toList ++ [34]) (by rw [List.map_append]; exact hown) (by rw [List.length_append, hn.out]; rfl))
      have hw2 := below_grown2 (wr := wr) hgrow (by go_grown) hw hz O.out
      go_returns
      exact ⟨by rw [hq.out]; rfl, hw2⟩

end Go.Proofs.Ytpblhonnknmjjaa
