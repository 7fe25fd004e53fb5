/- Parts of the proof, merged: Num2, Num3. -/
import Derived.Deep.RegionLaw
import Derived.IntWalk
import Derived.Test.YtklfepnokidnaaaSc10
/- The text of a number: the program's digits and NumText. -/
namespace Go.Proofs.Ytklfepnokidnaaa
open Go.RowKit
set_option linter.unusedVariables false
set_option linter.unusedSimpArgs false
attribute [local go_sem] Ext.cell

/-- The digits from the last on. -/
def revd (n : Nat) : List UInt8 := if n < 10 then [dig n] else dig n :: revd (n / 10)
theorem revd_small {n : Nat} (h : n < 10) : revd n = [dig n] := by rw [revd, if_pos h]
theorem revd_step {n : Nat} (h : ¬ n < 10) : revd n = dig n :: revd (n / 10) := by conv => lhs; rw [revd, if_neg h]
theorem revd_len : ∀ (m n : Nat), n < 10 ^ (m + 1) → (revd n).length ≤ m + 1
  | 0, n, h => by rw [revd_small (by simpa using h)]; simp
  | m + 1, n, h => by
    by_cases h1 : n < 10
    · rw [revd_small h1]; simp
    · rw [revd_step h1]
      have := revd_len m (n / 10) (by rw [Nat.pow_succ] at h; omega)
      simp; omega
def numS (n : Nat) : ByteArray := ⟨(revd n).reverse.toArray⟩
theorem dig_toNat (n : Nat) : (dig n).toNat = 48 + n % 10 := by unfold dig; rw [UInt8.toNat_ofNat']; exact Nat.mod_eq_of_lt (by omega)
theorem info_u8 : (Try.prog.info? 5).map (fun i => (i.zero, i.size, i.bytes)) = some (some (.int .u8 0), 1, 1) := by kernel_rfl

/-- Digits laid and digits to come. -/
def DigSt (N k : Nat) (o : List UInt8) : Prop := (k = 0 ∧ o = revd N ∧ o ≠ []) ∨ ((0 < k ∨ o = []) ∧ o ++ revd k = revd N)
theorem DigSt.step {N k : Nat} {o : List UInt8} (h : DigSt N k o) (h0 : 0 < k ∨ o = []) : DigSt N (k / 10) (o ++ [dig k]) := by
  rcases h with ⟨h1, h2, h3⟩ | ⟨_, h2⟩
  · rcases h0 with h0 | h0
    · omega
    · exact absurd h0 h3
  · by_cases h1 : k < 10
    · rw [revd_small h1] at h2
      exact .inl ⟨by omega, h2, by simp⟩
    · rw [revd_step h1] at h2
      exact .inr ⟨.inl (by omega), by rw [List.append_assoc]; exact h2⟩
theorem DigSt.len {N k : Nat} {o : List UInt8} (h : DigSt N k o) : o.length ≤ (revd N).length := by
  rcases h with ⟨_, h2, _⟩ | ⟨_, h2⟩
  · rw [h2]; exact Nat.le_refl _
  · rw [← h2]; simp
theorem DigSt.done {N k : Nat} {o : List UInt8} (h : DigSt N k o) (h0 : k = 0) (h1 : o ≠ []) : o = revd N := by
  rcases h with ⟨_, h2, _⟩ | ⟨h2, _⟩
  · exact h2
  · rcases h2 with h2 | h2
    · omega
    · exact absurd h2 h1

theorem own_bytes {w : World} {base : Nat} {v : Value} {o : List UInt8} (h : w.ownsRow base 5 1 v o.length (o.map bval)) (h0 : 0 < o.length) :
    ∃ g cap, v = .slice (some ⟨g, 0, none⟩) o.length cap ∧ base ≤ g ∧ g < w.heap.size ∧ o.length ≤ cap ∧ cap ≤ 9223372036854775807 ∧ BytesAt w g o.length fun j => o.getD j 0 := by
  obtain ⟨g, cap, rfl, h1, h2, h3, h4, h5, h6⟩ := own_cells h h0
  refine ⟨g, cap, rfl, h1, h2, h3, h4, fun j hj => ?_⟩
  have e := h5 j (bval (o.getD j 0)) (by rw [List.getElem?_map, List.getElem?_eq_getElem hj]; simp [List.getD, List.getElem?_eq_getElem hj])
  obtain ⟨c, _, f⟩ := h6 j (by omega)
  exact ⟨by simpa [bval] using e, by simpa using f⟩

set_option maxRecDepth 100000 in
set_option maxHeartbeats 4000000 in
theorem digits_c (N : Nat) (hN : N ≤ 4611686018427387904) (w : World) :
    Calls Try.prog 40 #[.int .i64 N] w fun e w' => e = .returned (.string (numS N)) ∧ Below w.heap.size w w' := by
  have hlen : (revd N).length ≤ 19 := revd_len 18 N (by omega)
  obtain ⟨i0, hi0, hz0, hz1, hz2⟩ := info_parts info_u8
  have I := Lib.hid hi0; have I0 := Lib.hid hz0; have I1 := Lib.hid hz1; have I2 := Lib.hid hz2
  clear hi0 hz0 hz1 hz2
  go_enter Try.func40, Try.ntmps40
  go_wp2_with fail
  go_loopg [0, 3] (N + 1) (fun gg m v wr => ∃ (k : Nat) (o : List UInt8), k ≤ N ∧ m = .int .i64 k ∧ Hid (DigSt N k o) ∧ wr.ownsRow w.heap.size 5 1 v o.length (o.map bval) ∧ (∃ a c, v = .slice a o.length c) ∧ Below w.heap.size w wr ∧ k + (if o = [] then 1 else 0) ≤ gg)
  case atStart => exact ⟨N, [], Nat.le_refl _, rfl, .inr ⟨.inr rfl, by simp⟩, own_new w #[] 5 1 0 rfl (by unfold maxLen; omega) _ (Nat.le_refl _), ⟨_, _, rfl⟩, by go_grown, by simp⟩
  case round =>
    obtain ⟨k, o, hk, rfl, hD, O, ⟨a, c, rfl⟩, hw, hg⟩ := hrel
    have hz := hw.size
    have hol := hD.out.len
    by_cases h0 : 0 < k ∨ o = []
    · have hst := hD.out.step h0
      have h0' := h0
      have hb : bval (dig k) = .int .u8 (48 + (k : Int) % 10) := by unfold bval; rw [dig_toNat]; simp
      have hb2 : (o ++ [dig k]).map bval = o.map bval ++ [.int .u8 (48 + (k : Int) % 10)] := by rw [List.map_append]; simp [hb]
      have hg2 : ∀ x, k + (if o = [] then 1 else 0) ≤ x → k / 10 + (if o ++ [dig k] = [] then 1 else 0) < x := by
        intro x hg
        rw [if_neg (by simp)]
        by_cases hk0 : 0 < k
        · have : k / 10 < k := by omega
          omega
        · rw [if_pos (by rcases h0 with h | h; exact absurd h hk0; exact h)] at hg; omega
      replace hg2 := Lib.hid hg2; replace hb2 := Lib.hid hb2; replace hst := Lib.hid hst; replace O := Lib.hid O
      clear hb
      replace hg := Lib.hid hg
      clear h0
      by_cases hk0 : 0 < k
      · have hd : decide ((0 : Int) < (k : Int)) = true := decide_eq_true (by omega)
        go_wp2_with (at_builtin; refine wpList_append_lies _ rfl _ _ _ rfl w.heap.size 5 i0 _ 1 1 Try.underlying67 I.out I0.out I1.out I2.out rfl (by omega) (.slice a o.length c) o.length (o.map bval) rfl (own_below O.out (by go_grown)) ⟨wr.heap.size, 0, none⟩ 1 1 [.int .u8 (48 + (k : Int) % 10)] rfl rfl (World.news_of_block (cs := #[.int .u8 (48 + (k : Int) % 10)]) (t := 5) (fr := (0, 0)) (heap_alloc_new' _ _ _ (by simp))) (by intro u hu; simp at hu; subst hu; rfl) (by omega) (by unfold maxLen; omega) (by omega) (by simp; omega) _ rfl ?_; intro g cap w2 hown hgrow hat hlt2)
        have hw2 := below_grown2 (wr := wr) hgrow (by go_grown) hw hz O.out
        rw [← hb2.out] at hown
        go_roundg (k / 10 + (if o ++ [dig k] = [] then 1 else 0))
        case measure => exact hg2.out _ hg.out
        case rel => exact ⟨k / 10, o ++ [dig k], by omega, by go_num, hst.out, by simpa using hown, ⟨some ⟨g, 0, none⟩, cap, by simp⟩, hw2, Nat.le_refl _⟩
      · obtain rfl : k = 0 := by omega
        obtain rfl : o = [] := by rcases h0' with h | h; exact absurd h hk0; exact h
        replace O : Hid (wr.ownsRow w.heap.size 5 1 (.slice a 0 c) 0 []) := O
        replace hb2 : Hid (([] ++ [dig 0]).map bval = [.int .u8 48]) := rfl
        clear hk0
        simp only [List.length_nil]
        go_wp2_with (at_builtin; refine wpList_append_lies _ rfl _ _ _ rfl w.heap.size 5 i0 _ 1 1 Try.underlying67 I.out I0.out I1.out I2.out rfl (by omega) (.slice a 0 c) 0 [] rfl (own_below O.out (by go_grown)) ⟨wr.heap.size, 0, none⟩ 1 1 [.int .u8 48] rfl rfl (World.news_of_block (cs := #[.int .u8 48]) (t := 5) (fr := (0, 0)) (heap_alloc_new' _ _ _ (by simp))) (by intro u hu; simp at hu; subst hu; rfl) (by omega) (by unfold maxLen; omega) (by omega) (by simp; omega) _ rfl ?_; intro g cap w2 hown hgrow hat hlt2)
        have hw2 := below_grown2 (wr := wr) hgrow (by go_grown) hw hz O.out
        replace hown : w2.ownsRow w.heap.size 5 1 (.slice (some ⟨g, 0, none⟩) 1 cap) 1 (([] ++ [dig 0]).map bval) := by rw [hb2.out]; simpa using hown
        go_roundg (0 / 10 + (if [] ++ [dig 0] = [] then 1 else 0))
        case measure => exact hg2.out _ hg.out
        case rel => exact ⟨0, [] ++ [dig 0], by omega, by first | rfl | go_num, hst.out, hown, ⟨some ⟨g, 0, none⟩, cap, by simp⟩, hw2, Nat.le_refl _⟩
    · have hk0 : k = 0 := by omega
      have ho : o ≠ [] := fun h => h0 (.inr h)
      have hfin := hD.out.done hk0 ho
      subst hk0
      subst hfin
      obtain ⟨g, cap, hv, h1, h2, h3, h4, hB⟩ := own_bytes O (List.length_pos_iff.2 ho)
      obtain ⟨rfl, rfl⟩ : a = some ⟨g, 0, none⟩ ∧ c = cap := by injection hv with e1 e2 e3; exact ⟨e1, e3⟩
      obtain ⟨n, hn⟩ : ∃ n, n = (revd N).length := ⟨_, rfl⟩
      rw [← hn] at hB h3 hol
      have hn0 : 0 < n := by rw [hn]; exact List.length_pos_iff.2 ho
      have hc := reverseB_c g n c _ (by omega) h3 wr hB
      have hd2 : ((n : Int) == 0) = false := by simp; omega
      rw [← hn]
      replace hn := Lib.hid hn
      clear hD O hv ho h0 hB hg
      go_wp2_with fail
      refine hc.mono ?_
      rintro e w2 ⟨rfl, hB2, hb, hs2⟩
      have hrun := run_convert_bytes_back (P := Try.prog) w2 67 9 5 ⟨g, 0, none⟩ c (revd N).reverse Try.underlying67 Try.underlying5 Try.underlying9 (fun j hj => by
        have hj' : j < (revd N).length := by simpa using hj
        have := (hB2 j (by rw [hn.out]; exact hj')).1
        rw [show (Addr.add ⟨g, 0, none⟩ j) = ⟨g, j, none⟩ by (unfold Addr.add; split <;> simp_all), this, hn.out]
        rw [List.getElem_reverse]
        simp only [List.getD]
        rw [List.getElem?_eq_getElem (by omega)]
        simp)
      rw [List.length_reverse, ← hn.out] at hrun
      clear hc hB2
      go_wp2_with fail
      go_returns
      exact ⟨rfl, hw.trans (hb.mono h1)⟩

end Go.Proofs.Ytklfepnokidnaaa

/- The text of a number: the reference's digits; NumText of both. -/
namespace Go.Proofs.Ytklfepnokidnaaa
open Go.RowKit
set_option linter.unusedVariables false
set_option linter.unusedSimpArgs false
attribute [local go_sem] Ext.cell

theorem conv1 (W : World) (g k : Nat) (x : Int) (hx : x = 48 + (k : Int) % 10) (h : W.cell? ⟨g, 0, none⟩ = some (.int .u8 x)) : (convert 67 9 (Value.slice (some ⟨g, 0, none⟩) 1 1)).run Try.prog W = .ok (.string ⟨#[dig k]⟩) W := by
  refine run_convert_bytes_back (P := Try.prog) _ 67 9 5 ⟨g, 0, none⟩ 1 [dig k] Try.underlying67 Try.underlying5 Try.underlying9 (fun j hj => ?_)
  obtain rfl : j = 0 := by simp at hj; exact hj
  have e : (dig k).toNat = 48 + k % 10 := dig_toNat k
  show W.cell? ⟨g, 0, none⟩ = some (.int .u8 ((dig k).toNat : Int))
  rw [h, hx, e]
  simp

theorem numS_small {N : Nat} (h : N < 10) : numS N = ⟨#[dig N]⟩ := by unfold numS; rw [revd_small h]; rfl
theorem numS_step {N : Nat} (h : ¬ N < 10) : numS N = numS (N / 10) ++ ⟨#[dig N]⟩ := by
  apply ByteArray.ext
  apply Array.ext'
  unfold numS
  rw [revd_step h]
  simp

set_option maxRecDepth 100000 in
set_option maxHeartbeats 4000000 in
theorem l01Digits_small (N : Nat) (hN : N < 10) (w : World) :
    Calls Try.prog 57 #[.int .i64 (-(N : Int))] w fun e w' => e = .returned (.string (numS N)) ∧ Below w.heap.size w w' := by
  rw [numS_small hN]
  have hrun := conv1 (w.alloc (.cells #[.int .u8 (48 + (N : Int))] 5)) w.heap.size N (48 + (N : Int)) (by omega) (by simp [go_sem])
  have d1 : decide (-10 < -(N : Int)) = true := decide_eq_true (by omega)
  go_enter Try.func57, Try.ntmps57
  go_wp2_with fail
  go_returns
  exact ⟨rfl, by go_grown⟩

set_option maxRecDepth 100000 in
set_option maxHeartbeats 4000000 in
theorem l01Digits_c : ∀ (N : Nat), N ≤ 4611686018427387904 → ∀ (w : World),
    Calls Try.prog 57 #[.int .i64 (-(N : Int))] w fun e w' => e = .returned (.string (numS N)) ∧ Below w.heap.size w w' := by
  intro N
  induction N using Nat.strongRecOn with
  | _ N ih =>
    intro hN w
    by_cases h : N < 10
    · exact l01Digits_small N h w
    · have hc := fun W => ih (N / 10) (by omega) (by omega) W
      rw [numS_step h]
      clear ih
      have hlen : (numS (N / 10)).size ≤ 19 := by
        have := revd_len 18 (N / 10) (by omega)
        show (revd (N / 10)).reverse.toArray.size ≤ 19
        simpa using this
      generalize numS (N / 10) = sN at *
      have hq : (-(N : Int)).tdiv 10 = -((N / 10 : Nat) : Int) := by rw [Int.neg_tdiv, Int.tdiv_eq_ediv_of_nonneg (by omega)]; simp
      have hr : (-(N : Int)).tmod 10 = -((N % 10 : Nat) : Int) := by rw [Int.neg_tmod, Int.tmod_eq_emod_of_nonneg (by omega)]; simp
      have d1 : decide (-10 < -(N : Int)) = false := decide_eq_false (by omega)
      have hc : ∀ W, Calls Try.prog 57 #[.int .i64 (-((N : Int) / 10))] W fun e w' => e = .returned (.string sN) ∧ Below W.heap.size W w' := fun W => by have h := hc W; rw [show ((N / 10 : Nat) : Int) = (N : Int) / 10 by simp] at h; exact h
      replace hc := Lib.hid hc
      have q1 : IntKind.i64.wrap (-((N : Int) / 10)) = -((N : Int) / 10) := IntWalk.i64_in _ ⟨by omega, by omega⟩
      have q2 : IntKind.i64.wrap (48 + (N : Int) % 10) = 48 + (N : Int) % 10 := IntWalk.i64_in _ ⟨by omega, by omega⟩
      have q3 : IntKind.u8.wrap (48 + (N : Int) % 10) = 48 + (N : Int) % 10 := IntWalk.u8_in _ ⟨by omega, by omega⟩
      have hr2 : (N : Int).tmod 10 = (N : Int) % 10 := Int.tmod_eq_emod_of_nonneg (by omega)
      have hcv := fun (W : World) (g : Nat) => conv1 W g N (48 + (N : Int) % 10) rfl
      have hl : sN.size + 1 ≤ 9223372036854775807 := by omega
      have hl2 : (9223372036854775807 < sN.size + 1) = False := by simp; omega
      clear hq hr hlen hN
      go_enter Try.func57, Try.ntmps57
      go_wp2_with fail
      go_region_law ((go_simp; go_at_call 57; ((with_reducible refine (hc.out _).mono ?_); rintro e w1 ⟨rfl, hb⟩; (first | (refine (fun (e1 : w1.cell? ⟨w.heap.size, 0, none⟩ = some (.int .u8 (48 + (N : Int) % 10))) => ?_) ?_; rotate_left; focus (refine cell_below hb ?_; simp [go_sem]; done)) | skip))))
      all_goals go_wp2_with fail
      all_goals go_returns
      all_goals have hB : Below w.heap.size w w1 := Below.trans (by go_grown) (hb.mono (by simp))
      all_goals have hs1 := hB.size
      all_goals exact ⟨rfl, by go_grown⟩

/-- The text of a number of 63 bits; of others none. -/
def numText (n : Int) : ByteArray := if -4611686018427387904 ≤ n ∧ n ≤ 4611686018427387903 then (if n < 0 then ⟨#[45]⟩ ++ numS n.natAbs else numS n.natAbs) else ByteArray.empty
theorem numS_len (N : Nat) (h : N ≤ 4611686018427387904) : (numS N).size ≤ 19 := by
  have := revd_len 18 N (by omega)
  show (revd N).reverse.toArray.size ≤ 19
  simpa using this

set_option maxHeartbeats 4000000 in
theorem impl_NumText_c (n : Int) (hi : I64 n) (w : World) :
    Calls Try.prog 44 #[.int .i64 n] w fun e w' => e = .returned (.string (numText n)) ∧ Below w.heap.size w w' := by
  obtain ⟨hi0, hi1⟩ := hi
  have W1 := fun W => within_c n (-4611686018427387904) 4611686018427387903 W
  unfold numText
  by_cases h : -4611686018427387904 ≤ n ∧ n ≤ 4611686018427387903
  · rw [decide_eq_true h] at W1
    rw [if_pos h]
    by_cases hn : n < 0
    · obtain ⟨N, rfl⟩ : ∃ N : Nat, n = -(N : Int) := ⟨n.natAbs, by omega⟩
      rw [if_pos hn, Int.natAbs_neg, Int.natAbs_natCast]
      have c1 := fun W => digits_c N (by omega) W
      have hl := numS_len N (by omega)
      generalize numS N = sN at *
      have hl2 : (9223372036854775807 < 1 + sN.size) = False := by simp; omega
      have d1 : decide (-(N : Int) < 0) = true := decide_eq_true hn
      have hn1 : (N : Int) ≤ 9223372036854775807 := by omega
      have hn2 : 0 < N := by omega
      clear h hi0 hi1 hn
      go_enter Try.func44, Try.ntmps44
      go_wp2_with (first | (go_at_call 33; ((with_reducible refine (W1 _).mono ?_); rintro e w1 ⟨rfl, rfl⟩)) | (go_at_call 40; ((with_reducible refine (c1 _).mono ?_); rintro e w1 ⟨rfl, hb⟩)))
      go_returns
      exact ⟨rfl, hb⟩
    · obtain ⟨N, rfl⟩ : ∃ N : Nat, n = N := ⟨n.natAbs, by omega⟩
      rw [if_neg hn, Int.natAbs_natCast]
      have c1 := fun W => digits_c N (by omega) W
      generalize numS N = sN at *
      have d1 : decide ((N : Int) < 0) = false := decide_eq_false hn
      have hn1 : (N : Int) ≤ 9223372036854775807 := by omega
      clear h hi0 hi1
      go_enter Try.func44, Try.ntmps44
      go_wp2_with (first | (go_at_call 33; ((with_reducible refine (W1 _).mono ?_); rintro e w1 ⟨rfl, rfl⟩)) | (go_at_call 40; ((with_reducible refine (c1 _).mono ?_); rintro e w1 ⟨rfl, hb⟩)))
      go_returns
      exact ⟨rfl, hb⟩
  · rw [decide_eq_false h] at W1
    rw [if_neg h]
    clear h
    go_enter Try.func44, Try.ntmps44
    go_wp2_with (go_at_call 33; ((with_reducible refine (W1 _).mono ?_); rintro e w1 ⟨rfl, rfl⟩))
    go_returns
    exact ⟨rfl, Below.refl _ _⟩

set_option maxHeartbeats 4000000 in
theorem spec_NumText_c (n : Int) (hi : I64 n) (w : World) :
    Calls Try.prog 27 #[.int .i64 n] w fun e w' => e = .returned (.string (numText n)) ∧ Below w.heap.size w w' := by
  have W1 := fun W => Wrap_c n hi W
  obtain ⟨hi0, hi1⟩ := hi
  unfold numText
  by_cases h : -4611686018427387904 ≤ n ∧ n ≤ 4611686018427387903
  · rw [(wrap63_eq n).2 h] at W1
    rw [if_pos h]
    have d0 : (n != n) = false := by simp
    by_cases hn : n < 0
    · obtain ⟨N, rfl⟩ : ∃ N : Nat, n = -(N : Int) := ⟨n.natAbs, by omega⟩
      rw [if_pos hn, Int.natAbs_neg, Int.natAbs_natCast]
      have c1 := fun W => l01Digits_c N (by omega) W
      have hl := numS_len N (by omega)
      generalize numS N = sN at *
      have hl2 : (9223372036854775807 < 1 + sN.size) = False := by simp; omega
      have d1 : decide (-(N : Int) < 0) = true := decide_eq_true hn
      have hn1 : (N : Int) ≤ 9223372036854775807 := by omega
      have hn2 : 0 < N := by omega
      clear h hi0 hi1 hn
      go_enter Try.func27, Try.ntmps27
      go_wp2_with (first | (go_at_call 53; ((with_reducible refine (W1 _).mono ?_); rintro e w1 ⟨rfl, rfl⟩)) | (go_at_call 57; ((with_reducible refine (c1 _).mono ?_); rintro e w1 ⟨rfl, hb⟩)))
      go_returns
      exact ⟨rfl, hb⟩
    · obtain ⟨N, rfl⟩ : ∃ N : Nat, n = N := ⟨n.natAbs, by omega⟩
      rw [if_neg hn, Int.natAbs_natCast]
      have c1 := fun W => l01Digits_c N (by omega) W
      generalize numS N = sN at *
      have d1 : decide ((N : Int) < 0) = false := decide_eq_false hn
      have hn1 : (N : Int) ≤ 9223372036854775807 := by omega
      clear h hi0 hi1
      go_enter Try.func27, Try.ntmps27
      go_wp2_with (first | (go_at_call 53; ((with_reducible refine (W1 _).mono ?_); rintro e w1 ⟨rfl, rfl⟩)) | (go_at_call 57; ((with_reducible refine (c1 _).mono ?_); rintro e w1 ⟨rfl, hb⟩)))
      go_returns
      exact ⟨rfl, hb⟩
  · rw [if_neg h]
    have d0 : (wrap63 n != n) = true := by simp [wrap63_eq]; omega
    generalize wrap63 n = wn at *
    clear h
    go_enter Try.func27, Try.ntmps27
    go_wp2_with (go_at_call 53; ((with_reducible refine (W1 _).mono ?_); rintro e w1 ⟨rfl, rfl⟩))
    go_returns
    exact ⟨rfl, Below.refl _ _⟩

end Go.Proofs.Ytklfepnokidnaaa
