/- Parts of the proof, merged: Ri4. -/
import Derived.Test.YtpblhonnknmjjaaFd023
/- The program's reader of values: plain law of inside and value; trees behind pointers. -/
namespace Go.Proofs.Ytpblhonnknmjjaa
open Go.RowKit
set_option linter.unusedVariables false
set_option linter.unusedSimpArgs false
attribute [local go_sem] Ext.cell

def insideI (rd : Rd) : Rd := fun l => match rd l with
  | none => none
  | some (a, r) =>
    if isAt kColons r then match rd (r.drop 4) with
      | none => none
      | some (b, r2) => if isAt [41] r2 then some (tCons a b, r2.drop 1) else none
    else if isAt kComma r then match rd (r.drop 2) with
      | none => none
      | some (b, r2) => if isAt [41] r2 then some (tPair a b, r2.drop 1) else none
    else if (upHead l && isAt [32] r) = true then match rd (r.drop 1) with
      | none => none
      | some (k, r2) => if isAt [41] r2 then some (.mk a.kind a.n a.s [k], r2.drop 1) else none
    else none
def numW (l : List UInt8) : List UInt8 := l.takeWhile numB
def wrdB (b : UInt8) : Bool := wordB b.toNat
noncomputable def readI : Nat → Rd
  | 0, _ => none
  | f + 1, l => match l with
    | [] => none
    | b :: l' => if isAt [40, 41] l then some (tUnit, l.drop 2)
      else if isAt [91, 93] l then some (tCon0 ⟨#[91, 93]⟩, l.drop 2)
      else if b = 40 then insideI (readI f) l'
      else if b = 34 then strR l'
      else if numB b then match textNum (l.takeWhile numB) with
        | some n => some (tInt n, l.drop (l.takeWhile numB).length)
        | none => none
      else if l.takeWhile wrdB = [] then none
      else some (tCon0 ⟨(l.takeWhile wrdB).toArray⟩, l.drop (l.takeWhile wrdB).length)
/-! Trees behind pointers. -/
theorem px_kept {f : Nat} {S K : Nat → Prop} {w w' : World} {v : Value} {t : PxT} (h : PxR f S w v t) (hk : Kept K w w') (hS : ∀ b, S b → ¬ K b) : PxR f S w' v t :=
  h.to (fun b h1 h2 => hk b h2 (hS b h1)) fun _ h _ => h
theorem px_up : ∀ {f : Nat} {S : Nat → Prop} {w : World} {v : Value} {t : PxT}, PxR f S w v t → PxR (f + 1) S w v t
  | 0, _, _, _, _, h => absurd h (by simp [PxR])
  | f + 1, S, w, v, t, ⟨b, a, cap, hv, hS, hwf, hr, h1, h2, h3⟩ => ⟨b, a, cap, hv, hS, hwf, hr, h1, h2, fun h0 =>
      let ⟨g, off, ha, hg, hk⟩ := h3 h0
      ⟨g, off, ha, hg, fun i k hik => let ⟨p, hp, hR⟩ := hk i k hik; ⟨p, hp, px_up hR⟩⟩⟩
theorem px_mono {f g : Nat} {S : Nat → Prop} {w : World} {v : Value} {t : PxT} (h : PxR f S w v t) (hfg : f ≤ g) : PxR g S w v t := by
  induction g with
  | zero => obtain rfl : f = 0 := by omega
            exact h
  | succ g ih =>
    by_cases e : f = g + 1
    · exact e ▸ h
    · exact px_up (ih (by omega))
theorem px_root {f : Nat} {S : Nat → Prop} {w : World} {q : Nat} {t : PxT} (h : PxR f S w (.pointer (some ⟨q, 0, none⟩)) t) : ∃ a c, RowAt w q 0 [.int .i64 t.kind, .int .i64 t.n, .string t.s, .slice a t.kids.length c] ∧ S q ∧ t.wf := by
  cases f with
  | zero => exact absurd h (by simp [PxR])
  | succ f =>
    obtain ⟨b, a, cap, hv, hS, hwf, hr, _⟩ := h
    obtain rfl : q = b := by injection hv with hv; injection hv with hv; injection hv
    exact ⟨a, cap, hr, hS, hwf⟩
theorem px_one {f g q : Nat} {S : Nat → Prop} {w : World} {k n : Int} {s : ByteArray} {v : Value} {t : PxT} (hwf : (PxT.mk k n s [t]).wf) (hS : S q) (hg : S g) (hr : RowAt w q 0 [.int .i64 k, .int .i64 n, .string s, .slice (some ⟨g, 0, none⟩) 1 1]) (hq : RowAt w g 0 [v]) (h : PxR f S w v t) :
    PxR (f + 1) S w (.pointer (some ⟨q, 0, none⟩)) (.mk k n s [t]) :=
  ⟨q, _, 1, rfl, hS, hwf, hr, Nat.le_refl _, by omega, fun _ => ⟨g, 0, rfl, hg, fun i c hc => by
    match i, hc with
    | 0, hc =>
      obtain rfl : t = c := by simpa [PxT.kids] using hc
      exact ⟨v, by simpa using hq 0 _ rfl, h⟩
    | i + 1, hc => simp [PxT.kids] at hc⟩⟩
theorem px_two {f g q : Nat} {S : Nat → Prop} {w : World} {k n : Int} {s : ByteArray} {v v' : Value} {t u : PxT} (hwf : (PxT.mk k n s [t, u]).wf) (hS : S q) (hg : S g) (hr : RowAt w q 0 [.int .i64 k, .int .i64 n, .string s, .slice (some ⟨g, 0, none⟩) 2 2]) (hq : RowAt w g 0 [v, v'])
    (h : PxR f S w v t) (h' : PxR f S w v' u) : PxR (f + 1) S w (.pointer (some ⟨q, 0, none⟩)) (.mk k n s [t, u]) :=
  ⟨q, _, 2, rfl, hS, hwf, hr, Nat.le_refl _, by omega, fun _ => ⟨g, 0, rfl, hg, fun i c hc => by
    match i, hc with
    | 0, hc =>
      obtain rfl : t = c := by simpa [PxT.kids] using hc
      exact ⟨v, by simpa using hq 0 _ rfl, h⟩
    | 1, hc =>
      obtain rfl : u = c := by simpa [PxT.kids] using hc
      exact ⟨v', by simpa using hq 1 _ rfl, h'⟩
    | i + 2, hc => simp [PxT.kids] at hc⟩⟩
theorem up_eq {s : ByteArray} {k : Nat} (h : k < s.size) : upHead (fromB s k) = upB s[k].toNat := by
  rw [fromB_cons h]
  show decide (65 ≤ s[k].toNat ∧ s[k].toNat ≤ 90) = decide (65 ≤ (s[k].toNat : Int) ∧ (s[k].toNat : Int) ≤ 90)
  rw [decide_eq_decide]
  omega
set_option maxRecDepth 100000 in
set_option maxHeartbeats 16000000 in
theorem inside_c (s : ByteArray) (f k b : Nat) (deep : Int) (hs : s.size ≤ 1048576) (hk : k ≤ s.size) (w : World) (R : RdI w b s k)
    (hR : ∀ (p : Nat) (W : World), p ≤ s.size → RdI W b s p → Calls Try.prog 29 #[.pointer (some ⟨b, 0, none⟩), .int .i64 deep] W (RiPost b s (readI f (fromB s p)) (2 * f + 1) W)) :
    Calls Try.prog 53 #[.pointer (some ⟨b, 0, none⟩), .int .i64 deep] w (RiPost b s (insideI (readI f) (fromB s k)) (2 * f + 3) w) := by
  obtain ⟨r_0, r_1⟩ := R.row.box2
  have hbl := R.lt
  replace hR := Lib.hid hR
  go_enter Try.func53, Try.ntmps53
  go_upto_region 1 with fail
  go_cut [6] (fun sx wx => sx = .bool (upHead (fromB s k)) ∧ RdI wx b s k ∧ RdF b w wx)
  case first =>
    by_cases hlt : k < s.size
    · have d1 : decide ((k : Int) < (s.size : Int)) = true := decide_eq_true (by omega)
      have cP := fun W => isUpper_c (s[k].toNat : Int) W
      have hu := up_eq hlt
      generalize upB s[k].toNat = u at *
      replace cP := Lib.hid cP; replace hu := Lib.hid hu
      cases u
      all_goals
        (refine wp_region_ext_lit (by kernel_rfl) (by kernel_rfl) ?_; (repeat (any_goals (first | go_big_quiet_step ((go_at_call 78; with_reducible exact Calls.ext_same (cP.out _))) | quiet_step ((go_at_call 78; with_reducible exact Calls.ext_same (cP.out _))) | (refine wpQuiet_step (fun K hK => ?_); go_simp; split <;> (refine hK _ ?_; clear hK K))))); all_goals (refine wpQuiet_nil ?_; rintro w1 ⟨⟨_, hb1⟩, rfl⟩))
        all_goals go_wp2_with fail
        all_goals (go_meet; exact ⟨by rw [hu.out], R.below hb1, RdF.of hb1 (by omega)⟩)
    · have d1 : decide ((k : Int) < (s.size : Int)) = false := decide_eq_false (by omega)
      have hu : upHead (fromB s k) = false := by rw [fromB_nil (by omega)]; rfl
      replace hu := Lib.hid hu
      (refine wp_region_ext_lit (by kernel_rfl) (by kernel_rfl) ?_; (repeat (any_goals (first | go_big_quiet_step (fail) | quiet_step (fail) | (refine wpQuiet_step (fun K hK => ?_); go_simp; split <;> (refine hK _ ?_; clear hK K))))); all_goals (refine wpQuiet_nil ?_; rintro w1 ⟨⟨_, hb1⟩, rfl⟩))
      all_goals go_wp2_with fail
      all_goals (go_meet; exact ⟨by rw [hu.out], R.below hb1, RdF.of hb1 (by omega)⟩)
  obtain ⟨w1, hw1⟩ : ∃ W, W = wc := ⟨_, rfl⟩
  subst hw1
  obtain ⟨rfl, R1, F1⟩ := hcut
  clear R r_0 r_1
  have hfail : ∀ (W : World) (v : Option Addr) (p : Nat), insideI (readI f) (fromB s k) = none → RdI W b s p → p ≤ s.size → RdF b w W → RiPost b s (insideI (readI f) (fromB s k)) (2 * f + 3) w (.returned (.tuple #[.pointer v, .bool false])) W := fun W v p h1 h2 h3 h4 => .inr ⟨v, p, rfl, h2, h3, h1, h4⟩
  replace hfail := Lib.hid hfail
  go_upto_region 3 with (go_at_call 29; (with_reducible refine (hR.out k _ hk R1).mono ?_); rintro e w2 hE; rcases hE with ⟨q1, p1, ta, rfl, T2, WQ2, R2, hp1, hm1, F2⟩ | ⟨v1, p1, rfl, R2, hp1, hm1, F2⟩)
  rotate_left
  · have hm : insideI (readI f) (fromB s k) = none := by unfold insideI; rw [hm1]
    replace hm := Lib.hid hm; replace hm1 := Lib.hid hm1
    go_wp2_with fail
    go_returns
    exact hfail.out _ none p1 hm.out R2 hp1 (F1.trans F2)
  replace hm1 := Lib.hid hm1
  have F02 := F1.trans F2
  have hz1 := F1.size
  have T2' : PxR (2 * f + 1) (fun g => w.heap.size ≤ g ∧ g < w2.heap.size) w2 (.pointer (some ⟨q1, 0, none⟩)) ta := T2.to (fun _ _ _ => rfl) fun g h1 h2 => ⟨by omega, h2⟩
  obtain ⟨xa, ca, Q2, hqS, hqwf⟩ := px_root T2'
  cases hcol : isAt (⟨#[32, 58, 58, 32]⟩ : ByteArray).data.toList (fromB s p1)
  · have hcol' := hcol
    replace hcol' := Lib.hid hcol'
    cases hcom : isAt (⟨#[44, 32]⟩ : ByteArray).data.toList (fromB s p1)
    · have hcom' := hcom
      replace hcom' := Lib.hid hcom'
      have hun : insideI (readI f) (fromB s k) = if (upHead (fromB s k) && isAt [32] (fromB s p1)) = true then match readI f (fromB s (p1 + 1)) with
          | none => none
          | some (k, r2) => if isAt [41] r2 then some (.mk ta.kind ta.n ta.s [k], r2.drop 1) else none
        else none := by
        unfold insideI
        rw [hm1.out]
        dsimp only
        rw [if_neg (by rw [show isAt kColons (fromB s p1) = false from hcol]; decide), if_neg (by rw [show isAt kComma (fromB s p1) = false from hcom]; decide), fromB_drop]
      replace hun := Lib.hid hun
      cases hu : upHead (fromB s k)
      · have hm : insideI (readI f) (fromB s k) = none := by rw [hun.out, hu]; rfl
        replace hm := Lib.hid hm
        go_wp2_with (first
          | (go_at_call 52; (with_reducible refine (take_c s ⟨#[32, 58, 58, 32]⟩ p1 b hs (by decide) (by omega) _ R2).mono ?_); rintro e w3 ⟨rfl, R3, F3⟩; rw [hcol] at R3; replace R3 : RdI w3 b s (p1) := R3)
          | (go_at_call 52; (with_reducible refine (take_c s ⟨#[44, 32]⟩ p1 b hs (by decide) (by omega) _ R3).mono ?_); rintro e w4 ⟨rfl, R4, F4⟩; rw [hcom] at R4; replace R4 : RdI w4 b s (p1) := R4))
        go_returns
        exact hfail.out _ none p1 hm.out R4 hp1 ((F02.trans F3).trans F4)
      · cases hsp : isAt (⟨#[32]⟩ : ByteArray).data.toList (fromB s p1)
        · have hm : insideI (readI f) (fromB s k) = none := by rw [hun.out, hu, show isAt [32] (fromB s p1) = false from hsp]; rfl
          replace hm := Lib.hid hm
          go_wp2_with (first
            | (go_at_call 52; (with_reducible refine (take_c s ⟨#[32, 58, 58, 32]⟩ p1 b hs (by decide) (by omega) _ R2).mono ?_); rintro e w3 ⟨rfl, R3, F3⟩; rw [hcol] at R3; replace R3 : RdI w3 b s (p1) := R3)
            | (go_at_call 52; (with_reducible refine (take_c s ⟨#[44, 32]⟩ p1 b hs (by decide) (by omega) _ R3).mono ?_); rintro e w4 ⟨rfl, R4, F4⟩; rw [hcom] at R4; replace R4 : RdI w4 b s (p1) := R4)
            | (go_at_call 52; (with_reducible refine (take_c s ⟨#[32]⟩ p1 b hs (by decide) (by omega) _ R4).mono ?_); rintro e w5 ⟨rfl, R5, F5⟩; rw [hsp] at R5; replace R5 : RdI w5 b s (p1) := R5))
          go_returns
          exact hfail.out _ none p1 hm.out R5 hp1 (((F02.trans F3).trans F4).trans F5)
        · have hun2 := hun.out
          rw [hu, show isAt [32] (fromB s p1) = true from hsp] at hun2
          simp only [Bool.and_self, if_true] at hun2
          have hp2' : p1 + 1 ≤ s.size := at_le (t := ⟨#[32]⟩) (by decide) hsp
          replace hun2 := Lib.hid hun2
          go_upto_region 9 with (first
            | (go_at_call 52; (with_reducible refine (take_c s ⟨#[32, 58, 58, 32]⟩ p1 b hs (by decide) (by omega) _ R2).mono ?_); rintro e w3 ⟨rfl, R3, F3⟩; rw [hcol] at R3; replace R3 : RdI w3 b s (p1) := R3)
            | (go_at_call 52; (with_reducible refine (take_c s ⟨#[44, 32]⟩ p1 b hs (by decide) (by omega) _ R3).mono ?_); rintro e w4 ⟨rfl, R4, F4⟩; rw [hcom] at R4; replace R4 : RdI w4 b s (p1) := R4)
            | (go_at_call 52; (with_reducible refine (take_c s ⟨#[32]⟩ p1 b hs (by decide) (by omega) _ R4).mono ?_); rintro e w5 ⟨rfl, R5, F5⟩; rw [hsp] at R5; replace R5 : RdI w5 b s (p1 + 1) := R5))
          clear hcol hcom hsp hu
          have FA2 : RdF b w2 w5 := (F3.trans F4).trans F5
          have FA := F02.trans FA2
          clear R3 R4 F3 F4 F5
          have TA5 := px_kept T2' FA2.kept (fun g hg e => by omega)
          have Q5 := Q2.kept FA2.kept (by omega)
          have WQ5 := WQ2.kept FA2.kept (by omega)
          have hzA := FA.size
          have hz2A := FA2.size
          go_upto_region 10 with (go_at_call 29; (with_reducible refine (hR.out (p1 + 1) _ hp2' R5).mono ?_); rintro e w7 hE; rcases hE with ⟨q2, p3, tb, rfl, T7, WQ7, R7, hp3, hm2, F7⟩ | ⟨v1, p3, rfl, R7, hp3, hm2, F7⟩)
          rotate_left
          · have hm : insideI (readI f) (fromB s k) = none := by rw [hun2.out, hm2]
            have Q7 := Q5.kept F7.kept (by omega)
            have WQ7' := WQ5.kept F7.kept (by omega)
            obtain ⟨a_0, a_1, a_2, a_3⟩ := Q7.box4
            have af_3 := WQ7'.frz 3 (by omega)
            have hqb := World.block_lt_of_cell? _ _ a_0; dsimp only at hqb
            have FB := FA.trans F7
            replace hm := Lib.hid hm; replace hm2 := Lib.hid hm2
            have hz7 := FB.size
            have hbq : ¬ b = q1 := by omega
            have hqbn : ¬ q1 = b := by omega
            go_wp2_with fail
            obtain ⟨wS, hwS⟩ : ∃ W, W = w7.setCell ⟨q1, 3, none⟩ (.slice (some ⟨w7.heap.size, 0, none⟩) 1 1) := ⟨_, rfl⟩
            have hzS : wS.heap.size = w7.heap.size := by rw [hwS]; simp [World.setCell]
            have kS : Kept (· = q1) w7 wS := by rw [hwS]; exact Kept.set (S := (· = q1)) (p := ⟨q1, 3, none⟩) (Kept.refl _ _) rfl _
            have bS : Below b w7 wS := by rw [hwS]; exact (Below.refl b w7).setCell (p := ⟨q1, 3, none⟩) (by show b ≤ q1; omega) _
            have QS : RowAt wS q1 0 [.int .i64 ta.kind, .int .i64 ta.n, .string ta.s, .slice (some ⟨w7.heap.size, 0, none⟩) 1 1] := by rw [hwS]; exact Q7.set3 _
            have WQS : Wr wS q1 0 4 := by rw [hwS]; exact WQ7'.set 3 _
            rw [← hwS]
            have RS := R7.kept kS (by omega)
            have FS : RdF b w wS := ⟨fun x h1 h2 => (kS x (by omega) (by omega)).trans (FB.kept x h1 h2), FB.below.trans bS⟩
            obtain ⟨wT, hwT⟩ : ∃ W, W = wS.alloc (.cells #[.pointer v1] 48) := ⟨_, rfl⟩
            rw [← hwT]
            have hbT : Below wS.heap.size wS wT := by rw [hwT]; go_grown
            have RT := RS.below hbT
            have FT := FS.trans (RdF.of hbT (by have := RS.lt; omega))
            clear hwS hwT
            go_returns
            exact hfail.out _ (some ⟨q1, 0, none⟩) p3 hm.out RT hp3 FT
          have hm2' := hm2
          replace hm2 := Lib.hid hm2
          have Q7 := Q5.kept F7.kept (by omega)
          have WQ7' := WQ5.kept F7.kept (by omega)
          obtain ⟨a_0, a_1, a_2, a_3⟩ := Q7.box4
          have af_3 := WQ7'.frz 3 (by omega)
          have hqb := World.block_lt_of_cell? _ _ a_0; dsimp only at hqb
          have FB := FA.trans F7
          have hz7 := FB.size
          have hbq : ¬ b = q1 := by omega
          have hqbn : ¬ q1 = b := by omega
          have T7' : PxR (2 * f + 1) (fun g => w5.heap.size ≤ g) w7 (.pointer (some ⟨q2, 0, none⟩)) tb := T7
          replace hm2' := Lib.hid hm2'
          go_upto_region 11 with fail
          obtain ⟨wS, hwS⟩ : ∃ W, W = w7.setCell ⟨q1, 3, none⟩ (.slice (some ⟨w7.heap.size, 0, none⟩) 1 1) := ⟨_, rfl⟩
          have hzS : wS.heap.size = w7.heap.size := by rw [hwS]; simp [World.setCell]
          have kS : Kept (· = q1) w7 wS := by rw [hwS]; exact Kept.set (S := (· = q1)) (p := ⟨q1, 3, none⟩) (Kept.refl _ _) rfl _
          have bS : Below b w7 wS := by rw [hwS]; exact (Below.refl b w7).setCell (p := ⟨q1, 3, none⟩) (by show b ≤ q1; omega) _
          have QS : RowAt wS q1 0 [.int .i64 ta.kind, .int .i64 ta.n, .string ta.s, .slice (some ⟨w7.heap.size, 0, none⟩) 1 1] := by rw [hwS]; exact Q7.set3 _
          have WQS : Wr wS q1 0 4 := by rw [hwS]; exact WQ7'.set 3 _
          rw [← hwS]
          have RS := R7.kept kS (by omega)
          have FS : RdF b w wS := ⟨fun x h1 h2 => (kS x (by omega) (by omega)).trans (FB.kept x h1 h2), FB.below.trans bS⟩
          obtain ⟨wT, hwT⟩ : ∃ W, W = wS.alloc (.cells #[.pointer (some ⟨q2, 0, none⟩)] 48) := ⟨_, rfl⟩
          rw [← hwT]
          have hbT : Below wS.heap.size wS wT := by rw [hwT]; go_grown
          have RT := RS.below hbT
          have FT := FS.trans (RdF.of hbT (by have := RS.lt; omega))
          have L1 : RowAt wT w7.heap.size 0 [.pointer (some ⟨q2, 0, none⟩)] := by rw [hwT, ← hzS]; exact RowAt.box wS #[_] _
          have QT := QS.below hbT
          have WQT := WQS.below hbT
          have TT := (px_kept T7' kS (fun g hg e => by omega)).below hbT
          clear hwS hwT a_0 a_1 a_2 a_3 af_3
          have hwfa : (PxT.mk ta.kind ta.n ta.s [tb]).wf := hqwf
          cases h41 : isAt (⟨#[41]⟩ : ByteArray).data.toList (fromB s p3)
          · have hm : insideI (readI f) (fromB s k) = none := by rw [hun2.out, hm2'.out]; dsimp only; rw [if_neg (by rw [show isAt [41] (fromB s p3) = false from h41]; decide)]
            replace hm := Lib.hid hm
            go_wp2_with (go_at_call 52; (with_reducible refine (take_c s ⟨#[41]⟩ p3 b hs (by decide) (by omega) _ RT).mono ?_); rintro e w8 ⟨rfl, R8, F8⟩; rw [h41] at R8; replace R8 : RdI w8 b s (p3) := R8)
            go_returns
            exact hfail.out _ (some ⟨q1, 0, none⟩) p3 hm.out R8 hp3 (FT.trans F8)
          · have hm : insideI (readI f) (fromB s k) = some (.mk ta.kind ta.n ta.s [tb], fromB s (p3 + 1)) := by rw [hun2.out, hm2'.out]; dsimp only; rw [if_pos (show isAt [41] (fromB s p3) = true from h41), fromB_drop]
            have hp4 : p3 + 1 ≤ s.size := at_le (t := ⟨#[41]⟩) (by decide) h41
            replace hm := Lib.hid hm
            go_wp2_with (go_at_call 52; (with_reducible refine (take_c s ⟨#[41]⟩ p3 b hs (by decide) (by omega) _ RT).mono ?_); rintro e w8 ⟨rfl, R8, F8⟩; rw [h41] at R8; replace R8 : RdI w8 b s (p3 + 1) := R8)
            go_returns
            have PK := px_one hwfa (S := fun g => w.heap.size ≤ g) (show w.heap.size ≤ q1 by omega) (show w.heap.size ≤ w7.heap.size by omega) (QT.kept F8.kept (by omega)) (L1.kept F8.kept (by omega)) (px_kept (TT.to (fun _ _ _ => rfl) (fun g hg _ => by omega)) F8.kept (fun g hg e => by omega))
            exact .inl ⟨q1, p3 + 1, _, rfl, px_mono PK (by omega), WQT.kept F8.kept (by omega), R8, hp4, hm.out, FT.trans F8⟩
    · have hcom' := hcom
      replace hcom' := Lib.hid hcom'
      have hp2' : p1 + 2 ≤ s.size := at_le (t := ⟨#[44, 32]⟩) (by decide) hcom
      go_upto_region 12 with (first
        | (go_at_call 52; (with_reducible refine (take_c s ⟨#[32, 58, 58, 32]⟩ p1 b hs (by decide) (by omega) _ R2).mono ?_); rintro e w3 ⟨rfl, R3, F3⟩; rw [hcol] at R3; replace R3 : RdI w3 b s (p1) := R3)
        | (go_at_call 52; (with_reducible refine (take_c s ⟨#[44, 32]⟩ p1 b hs (by decide) (by omega) _ R3).mono ?_); rintro e w4 ⟨rfl, R4, F4⟩; rw [hcom] at R4; replace R4 : RdI w4 b s (p1 + 2) := R4))
      clear hcol hcom
      obtain ⟨p2, hp2d⟩ : ∃ x, x = p1 + 2 := ⟨_, rfl⟩
      have hp2 : p2 ≤ s.size := by omega
      have RA : RdI w4 b s p2 := by rw [hp2d]; exact R4
      have FA2 : RdF b w2 w4 := F3.trans F4
      have FA := F02.trans FA2
      replace hp2d := Lib.hid hp2d
      clear R3 R4 F3 F4
      go_upto_region 13 with (go_at_call 29; (with_reducible refine (hR.out p2 _ hp2 RA).mono ?_); rintro e w7 hE; rcases hE with ⟨q2, p3, tb, rfl, T7, WQ7, R7, hp3, hm2, F7⟩ | ⟨v1, p3, rfl, R7, hp3, hm2, F7⟩)
      rotate_left
      · have hm : insideI (readI f) (fromB s k) = none := by unfold insideI; rw [hm1.out]; dsimp only; rw [if_neg (by rw [show isAt kColons (fromB s p1) = false from hcol'.out]; decide), if_pos (show isAt kComma (fromB s p1) = true from hcom'.out), fromB_drop];  rw [← hp2d.out, hm2]
        replace hm := Lib.hid hm; replace hm2 := Lib.hid hm2
        go_wp2_with fail
        go_returns
        exact hfail.out _ none p3 hm.out R7 hp3 (FA.trans F7)
      have FB := FA.trans F7
      cases h41 : isAt (⟨#[41]⟩ : ByteArray).data.toList (fromB s p3)
      · have hm : insideI (readI f) (fromB s k) = none := by unfold insideI; rw [hm1.out]; dsimp only; rw [if_neg (by rw [show isAt kColons (fromB s p1) = false from hcol'.out]; decide), if_pos (show isAt kComma (fromB s p1) = true from hcom'.out), fromB_drop];  rw [← hp2d.out, hm2]; dsimp only; rw [if_neg (by rw [show isAt [41] (fromB s p3) = false from h41]; decide)]
        replace hm := Lib.hid hm; replace hm2 := Lib.hid hm2
        go_wp2_with (go_at_call 52; (with_reducible refine (take_c s ⟨#[41]⟩ p3 b hs (by decide) (by omega) _ R7).mono ?_); rintro e w8 ⟨rfl, R8, F8⟩; rw [h41] at R8; replace R8 : RdI w8 b s (p3) := R8)
        go_returns
        exact hfail.out _ none p3 hm.out R8 hp3 (FB.trans F8)
      · have hm : insideI (readI f) (fromB s k) = some (tPair ta tb, fromB s (p3 + 1)) := by unfold insideI; rw [hm1.out]; dsimp only; rw [if_neg (by rw [show isAt kColons (fromB s p1) = false from hcol'.out]; decide), if_pos (show isAt kComma (fromB s p1) = true from hcom'.out), fromB_drop];  rw [← hp2d.out, hm2]; dsimp only; rw [if_pos (show isAt [41] (fromB s p3) = true from h41), fromB_drop]
        have hp4 : p3 + 1 ≤ s.size := at_le (t := ⟨#[41]⟩) (by decide) h41
        replace hm := Lib.hid hm; replace hm2 := Lib.hid hm2
        have hzA := FA.size
        have hz2A := FA2.size
        have T7' : PxR (2 * f + 1) (fun g => w2.heap.size ≤ g) w7 (.pointer (some ⟨q2, 0, none⟩)) tb := T7.to (fun _ _ _ => rfl) fun g h1 h2 => by omega
        have TA7 := px_kept (px_kept T2' FA2.kept (fun g hg e => by omega)) F7.kept (fun g hg e => by omega)
        go_upto_region 16 with (go_at_call 52; (with_reducible refine (take_c s ⟨#[41]⟩ p3 b hs (by decide) (by omega) _ R7).mono ?_); rintro e w8 ⟨rfl, R8, F8⟩; rw [h41] at R8; replace R8 : RdI w8 b s (p3 + 1) := R8)
        replace h41 := Lib.hid h41
        have FC := FB.trans F8
        have T8 := px_kept T7' F8.kept (fun g hg e => by omega)
        have TA8 := px_kept TA7 F8.kept (fun g hg e => by omega)
        have hzC := FC.size
        obtain ⟨wH, hwH⟩ : ∃ W, W = w8.alloc (.cells #[.pointer (some ⟨q1, 0, none⟩), .pointer (some ⟨q2, 0, none⟩)] 48) := ⟨_, rfl⟩
        obtain ⟨wI, hwI⟩ : ∃ W, W = wH.alloc (.cells #[.int .i64 5, .int .i64 0, .string ⟨#[]⟩, .slice (some ⟨w8.heap.size, 0, none⟩) 2 2] 82) := ⟨_, rfl⟩
        have hzH : wH.heap.size = w8.heap.size + 1 := by rw [hwH]; simp
        rw [← hwH, ← hwI, ← hzH]
        have hbH : Below w8.heap.size w8 wH := by rw [hwH]; go_grown
        have hbI : Below wH.heap.size wH wI := by rw [hwI]; go_grown
        have L1 : RowAt wI w8.heap.size 0 [.pointer (some ⟨q1, 0, none⟩), .pointer (some ⟨q2, 0, none⟩)] := RowAt.below (by rw [hwH]; exact RowAt.box w8 #[_, _] _) hbI
        have X1 : RowAt wI wH.heap.size 0 [.int .i64 5, .int .i64 0, .string ⟨#[]⟩, .slice (some ⟨w8.heap.size, 0, none⟩) 2 2] := by rw [hwI]; exact RowAt.box wH #[_, _, _, _] _
        have XW : Wr wI wH.heap.size 0 4 := by rw [hwI]; exact Wr.box wH #[_, _, _, _] _
        have hwf5 : (PxT.mk 5 0 ⟨#[]⟩ [ta, tb]).wf := wf0 (k := 5) (by omega) (by decide)
        have PP := px_two hwf5 (S := fun g => w.heap.size ≤ g) (show w.heap.size ≤ wH.heap.size by omega) (show w.heap.size ≤ w8.heap.size by omega) X1 L1 ((TA8.below hbH).below hbI |>.to (fun _ _ _ => rfl) (fun g hg _ => hg.1)) ((T8.below hbH).below hbI |>.to (fun _ _ _ => rfl) (fun g hg _ => by omega))
        have hbb := R8.lt
        have FI := (FC.trans (RdF.of hbH (by omega))).trans (RdF.of hbI (by omega))
        have RI := (R8.below hbH).below hbI
        clear hwH hwI hbH hbI L1 hzH
        go_wp2_with fail
        go_returns
        exact .inl ⟨wH.heap.size, p3 + 1, _, rfl, px_mono PP (by omega), XW, RI, hp4, hm.out, FI⟩
  · have hcol' := hcol
    replace hcol' := Lib.hid hcol'
    have hp2' : p1 + 4 ≤ s.size := at_le (t := ⟨#[32, 58, 58, 32]⟩) (by decide) hcol
    go_upto_region 12 with (go_at_call 52; (with_reducible refine (take_c s ⟨#[32, 58, 58, 32]⟩ p1 b hs (by decide) (by omega) _ R2).mono ?_); rintro e w3 ⟨rfl, R3, F3⟩; rw [hcol] at R3; replace R3 : RdI w3 b s (p1 + 4) := R3)
    clear hcol
    obtain ⟨p2, hp2d⟩ : ∃ x, x = p1 + 4 := ⟨_, rfl⟩
    have hp2 : p2 ≤ s.size := by omega
    have RA : RdI w3 b s p2 := by rw [hp2d]; exact R3
    have FA2 : RdF b w2 w3 := F3
    have FA := F02.trans FA2
    replace hp2d := Lib.hid hp2d
    clear R3
    go_upto_region 13 with (go_at_call 29; (with_reducible refine (hR.out p2 _ hp2 RA).mono ?_); rintro e w7 hE; rcases hE with ⟨q2, p3, tb, rfl, T7, WQ7, R7, hp3, hm2, F7⟩ | ⟨v1, p3, rfl, R7, hp3, hm2, F7⟩)
    rotate_left
    · have hm : insideI (readI f) (fromB s k) = none := by unfold insideI; rw [hm1.out]; dsimp only; rw [if_pos (show isAt kColons (fromB s p1) = true from hcol'.out), fromB_drop];  rw [← hp2d.out, hm2]
      replace hm := Lib.hid hm; replace hm2 := Lib.hid hm2
      go_wp2_with fail
      go_returns
      exact hfail.out _ none p3 hm.out R7 hp3 (FA.trans F7)
    have FB := FA.trans F7
    cases h41 : isAt (⟨#[41]⟩ : ByteArray).data.toList (fromB s p3)
    · have hm : insideI (readI f) (fromB s k) = none := by unfold insideI; rw [hm1.out]; dsimp only; rw [if_pos (show isAt kColons (fromB s p1) = true from hcol'.out), fromB_drop];  rw [← hp2d.out, hm2]; dsimp only; rw [if_neg (by rw [show isAt [41] (fromB s p3) = false from h41]; decide)]
      replace hm := Lib.hid hm; replace hm2 := Lib.hid hm2
      go_wp2_with (go_at_call 52; (with_reducible refine (take_c s ⟨#[41]⟩ p3 b hs (by decide) (by omega) _ R7).mono ?_); rintro e w8 ⟨rfl, R8, F8⟩; rw [h41] at R8; replace R8 : RdI w8 b s (p3) := R8)
      go_returns
      exact hfail.out _ none p3 hm.out R8 hp3 (FB.trans F8)
    · have hm : insideI (readI f) (fromB s k) = some (tCons ta tb, fromB s (p3 + 1)) := by unfold insideI; rw [hm1.out]; dsimp only; rw [if_pos (show isAt kColons (fromB s p1) = true from hcol'.out), fromB_drop];  rw [← hp2d.out, hm2]; dsimp only; rw [if_pos (show isAt [41] (fromB s p3) = true from h41), fromB_drop]
      have hp4 : p3 + 1 ≤ s.size := at_le (t := ⟨#[41]⟩) (by decide) h41
      replace hm := Lib.hid hm; replace hm2 := Lib.hid hm2
      have hzA := FA.size
      have hz2A := FA2.size
      have T7' : PxR (2 * f + 1) (fun g => w2.heap.size ≤ g) w7 (.pointer (some ⟨q2, 0, none⟩)) tb := T7.to (fun _ _ _ => rfl) fun g h1 h2 => by omega
      have TA7 := px_kept (px_kept T2' FA2.kept (fun g hg e => by omega)) F7.kept (fun g hg e => by omega)
      go_upto_region 16 with (go_at_call 52; (with_reducible refine (take_c s ⟨#[41]⟩ p3 b hs (by decide) (by omega) _ R7).mono ?_); rintro e w8 ⟨rfl, R8, F8⟩; rw [h41] at R8; replace R8 : RdI w8 b s (p3 + 1) := R8)
      replace h41 := Lib.hid h41
      have FC := FB.trans F8
      have T8 := px_kept T7' F8.kept (fun g hg e => by omega)
      have TA8 := px_kept TA7 F8.kept (fun g hg e => by omega)
      have hzC := FC.size
      obtain ⟨wH, hwH⟩ : ∃ W, W = w8.alloc (.cells #[.pointer (some ⟨q1, 0, none⟩), .pointer (some ⟨q2, 0, none⟩)] 48) := ⟨_, rfl⟩
      obtain ⟨wI, hwI⟩ : ∃ W, W = wH.alloc (.cells #[.int .i64 5, .int .i64 0, .string ⟨#[]⟩, .slice (some ⟨w8.heap.size, 0, none⟩) 2 2] 82) := ⟨_, rfl⟩
      have hzH : wH.heap.size = w8.heap.size + 1 := by rw [hwH]; simp
      rw [← hwH, ← hwI, ← hzH]
      have hbH : Below w8.heap.size w8 wH := by rw [hwH]; go_grown
      have hbI : Below wH.heap.size wH wI := by rw [hwI]; go_grown
      have L1 : RowAt wI w8.heap.size 0 [.pointer (some ⟨q1, 0, none⟩), .pointer (some ⟨q2, 0, none⟩)] := RowAt.below (by rw [hwH]; exact RowAt.box w8 #[_, _] _) hbI
      have X1 : RowAt wI wH.heap.size 0 [.int .i64 5, .int .i64 0, .string ⟨#[]⟩, .slice (some ⟨w8.heap.size, 0, none⟩) 2 2] := by rw [hwI]; exact RowAt.box wH #[_, _, _, _] _
      have XW : Wr wI wH.heap.size 0 4 := by rw [hwI]; exact Wr.box wH #[_, _, _, _] _
      have hwf5 : (PxT.mk 5 0 ⟨#[]⟩ [ta, tb]).wf := wf0 (k := 5) (by omega) (by decide)
      have PP := px_two hwf5 (S := fun g => w.heap.size ≤ g) (show w.heap.size ≤ wH.heap.size by omega) (show w.heap.size ≤ w8.heap.size by omega) X1 L1 ((TA8.below hbH).below hbI |>.to (fun _ _ _ => rfl) (fun g hg _ => hg.1)) ((T8.below hbH).below hbI |>.to (fun _ _ _ => rfl) (fun g hg _ => by omega))
      have hbb := R8.lt
      have FI := (FC.trans (RdF.of hbH (by omega))).trans (RdF.of hbI (by omega))
      have RI := (R8.below hbH).below hbI
      clear hwH hwI hbH hbI L1 hzH
      go_wp2_with fail
      obtain ⟨wJ, hwJ⟩ : ∃ W, W = wI.alloc (.cells #[.pointer (some ⟨wH.heap.size, 0, none⟩)] 48) := ⟨_, rfl⟩
      obtain ⟨wK, hwK⟩ : ∃ W, W = wJ.alloc (.cells #[.int .i64 4, .int .i64 0, .string ⟨#[58, 58]⟩, .slice (some ⟨wI.heap.size, 0, none⟩) 1 1] 82) := ⟨_, rfl⟩
      have hzJ : wJ.heap.size = wI.heap.size + 1 := by rw [hwJ]; simp
      rw [← hwJ, ← hwK, ← hzJ]
      have hbJ : Below wI.heap.size wI wJ := by rw [hwJ]; go_grown
      have hbK : Below wJ.heap.size wJ wK := by rw [hwK]; go_grown
      have L2 : RowAt wK wI.heap.size 0 [.pointer (some ⟨wH.heap.size, 0, none⟩)] := RowAt.below (by rw [hwJ]; exact RowAt.box wI #[_] _) hbK
      have X2 : RowAt wK wJ.heap.size 0 [.int .i64 4, .int .i64 0, .string ⟨#[58, 58]⟩, .slice (some ⟨wI.heap.size, 0, none⟩) 1 1] := by rw [hwK]; exact RowAt.box wJ #[_, _, _, _] _
      have XW2 : Wr wK wJ.heap.size 0 4 := by rw [hwK]; exact Wr.box wJ #[_, _, _, _] _
      have hwf4 : (PxT.mk 4 0 ⟨#[58, 58]⟩ [.mk 5 0 ⟨#[]⟩ [ta, tb]]).wf := wf0 (k := 4) (by omega) (by decide)
      have hzI := FI.size
      have PK := px_one hwf4 (S := fun g => w.heap.size ≤ g) (show w.heap.size ≤ wJ.heap.size by omega) (show w.heap.size ≤ wI.heap.size by omega) X2 L2 ((PP.below hbJ).below hbK)
      have hbi := RI.lt
      clear hwJ hwK
      go_returns
      exact .inl ⟨wJ.heap.size, p3 + 1, _, rfl, px_mono PK (by omega), XW2, (RI.below hbJ).below hbK, hp4, hm.out, (FI.trans (RdF.of hbJ (by omega))).trans (RdF.of hbK (by omega))⟩
end Go.Proofs.Ytpblhonnknmjjaa
