/- Parts of the proof, merged: TyOk, TyOk2. -/
import Derived.Test.YtaimekaagmcmnaaGreatNe32
/- Types: items and their shape. Plain law; TyOk of the program. -/
namespace Go.Proofs.YtaimekaagmcmnaaGreat
open Go.RowKit
set_option linter.unusedVariables false
set_option linter.unusedSimpArgs false
attribute [local go_sem] Ext.cell

/-! Plain law. -/
def sRef : List UInt8 := [114, 101, 102]
def sArrow : List UInt8 := [45, 62]
def sStar : List UInt8 := [42]
def tyNameOk (x : GTyItem) : Bool := if x.name.toList == sRef then x.arity == 1 else if (x.name.toList == sArrow || x.name.toList == sStar) then x.arity == 2 else nameOk x.name
def itemOk (x : GTyItem) : Bool := if x.name.toList.isEmpty then (decide (0 ≤ x.var ∧ x.var ≤ 9999) && x.arity == 0) else (x.var == 0 && (decide (0 ≤ x.arity ∧ x.arity ≤ 2) && tyNameOk x))
theorem itemOk_ar {x : GTyItem} (h : itemOk x = true) : 0 ≤ x.arity ∧ x.arity ≤ 2 := by
  unfold itemOk at h
  split at h <;> simp at h <;> omega
def tyGo : Nat → List GTyItem → Bool
  | n, [] => n == 0
  | 0, _ :: _ => false
  | n + 1, x :: xs => itemOk x && tyGo (n + x.arity.toNat) xs
def tyOk (x : GTy) : Bool := decide ((x.items.length : Int) ≤ 200) && tyGo 1 x.items

def restT : Nat → List GTyItem → Option (List GTyItem)
  | 0, xs => some xs
  | _ + 1, [] => none
  | n + 1, x :: xs => restT (n + x.arity.toNat) xs
theorem restT_add : ∀ (xs : List GTyItem) (m n : Nat), restT (m + n) xs = (restT m xs).bind (restT n)
  | xs, 0, n => by rw [Nat.zero_add]; cases xs <;> rfl
  | [], m + 1, n => by rw [show m + 1 + n = (m + n) + 1 by omega]; rfl
  | x :: xs, m + 1, n => by
    rw [show m + 1 + n = (m + n) + 1 by omega]
    show restT (m + n + x.arity.toNat) xs = (restT (m + x.arity.toNat) xs).bind (restT n)
    rw [← restT_add xs, show m + n + x.arity.toNat = m + x.arity.toNat + n by omega]
theorem restT_drop : ∀ (xs : List GTyItem) (n : Nat) (r : List GTyItem), restT n xs = some r → ∃ k, k ≤ xs.length ∧ r = xs.drop k ∧ (0 < n → 0 < k)
  | xs, 0, r, h => by
    have : restT 0 xs = some xs := by cases xs <;> rfl
    rw [this] at h
    exact ⟨0, Nat.zero_le _, (Option.some.inj h).symm, fun h => absurd h (Nat.lt_irrefl 0)⟩
  | [], n + 1, r, h => by cases h
  | x :: xs, n + 1, r, h => by
    obtain ⟨k, h1, h2, _⟩ := restT_drop xs _ r h
    exact ⟨k + 1, by simp; omega, h2, fun _ => Nat.succ_pos k⟩
theorem tyGo_rest : ∀ (xs : List GTyItem) (n : Nat), tyGo n xs = ((xs.all itemOk) && decide (restT n xs = some []))
  | [], 0 => rfl
  | [], n + 1 => rfl
  | x :: xs, 0 => by
    have : restT 0 (x :: xs) = some (x :: xs) := rfl
    rw [this]
    show false = _
    simp
  | x :: xs, n + 1 => by
    show (itemOk x && tyGo (n + x.arity.toNat) xs) = _
    rw [tyGo_rest xs, List.all_cons, Bool.and_assoc]
    rfl

def tendN (E : Nat → Int) : Nat → Int → Int
  | 0, z => z
  | n + 1, z => if z < 0 then z else tendN E n (E z.toNat)
def tend (l : List GTyItem) : Nat → Nat → Int
  | 0, _ => -1
  | f + 1, i => match l[i]? with
    | none => -1
    | some x => tendN (tend l f) x.arity.toNat (i + 1)
def endT (l : List GTyItem) (n z : Nat) : Int := match restT n (l.drop z) with
  | none => -1
  | some r => (l.length : Int) - r.length
theorem tendN_neg (E : Nat → Int) : ∀ (n : Nat) (z : Int), z < 0 → tendN E n z = z
  | 0, _, _ => rfl
  | n + 1, z, h => by unfold tendN; rw [if_pos h]
theorem endT_zero (l : List GTyItem) {z : Nat} (hz : z ≤ l.length) : endT l 0 z = z := by
  unfold endT
  have : restT 0 (l.drop z) = some (l.drop z) := by cases l.drop z <;> rfl
  rw [this]
  simp only [List.length_drop]
  omega
theorem endT_succ (l : List GTyItem) (n z : Nat) (hz : z ≤ l.length) : (endT l 1 z = -1 ∧ endT l (n + 1) z = -1) ∨ ∃ z' : Nat, endT l 1 z = z' ∧ z < z' ∧ z' ≤ l.length ∧ endT l (n + 1) z = endT l n z' := by
  unfold endT
  rw [Nat.add_comm n 1, restT_add]
  cases h : restT 1 (l.drop z) with
  | none => exact .inl ⟨rfl, rfl⟩
  | some r =>
    obtain ⟨k, h1, h2, h3⟩ := restT_drop _ _ _ h
    rw [List.length_drop] at h1
    rw [List.drop_drop] at h2
    refine .inr ⟨z + k, ?_, by have := h3 (by omega); omega, by omega, ?_⟩
    · subst h2; simp only [List.length_drop]; omega
    · subst h2; rfl
theorem tend_eq (l : List GTyItem) : ∀ (f i : Nat), l.length < i + f → tend l f i = endT l 1 i
  | 0, i, h => by
    unfold endT; rw [List.drop_of_length_le (by omega)]; rfl
  | f + 1, i, h => by
    unfold tend
    cases hi : l[i]? with
    | none =>
      have := List.getElem?_eq_none_iff.1 hi
      unfold endT; rw [List.drop_of_length_le (by omega)]; rfl
    | some x =>
      obtain ⟨hlt, hx⟩ := List.getElem?_eq_some_iff.1 hi
      have key : ∀ (n z : Nat), i < z → z ≤ l.length → tendN (tend l f) n z = endT l n z := by
        intro n
        induction n with
        | zero => intro z _ hz; rw [endT_zero l hz]; rfl
        | succ n ih =>
          intro z hz1 hz2
          unfold tendN
          rw [if_neg (by omega), Int.toNat_natCast, tend_eq l f z (by omega)]
          rcases endT_succ l n z hz2 with ⟨h1, h2⟩ | ⟨z', h1, h2, h3, h4⟩
          · rw [h1, h2]; exact tendN_neg _ _ _ (by omega)
          · rw [h1, h4]; exact ih z' (by omega) h3
      show tendN (tend l f) x.arity.toNat ((i : Int) + 1) = _
      rw [show (i : Int) + 1 = ((i + 1 : Nat) : Int) by omega, key _ _ (by omega) (by omega)]
      unfold endT
      rw [List.drop_eq_getElem_cons hlt, hx]
      show _ = match restT (0 + x.arity.toNat) (l.drop (i + 1)) with
        | none => -1
        | some r => (l.length : Int) - r.length
      rw [Nat.zero_add]
theorem tend_range (l : List GTyItem) (f i : Nat) (h : l.length < i + f) (hi : i ≤ l.length) : tend l f i = -1 ∨ ∃ z : Nat, tend l f i = z ∧ i < z ∧ z ≤ l.length := by
  rw [tend_eq l f i h]
  rcases endT_succ l 0 i hi with ⟨h1, _⟩ | ⟨z, h1, h2, h3, _⟩
  · exact .inl h1
  · exact .inr ⟨z, h1, h2, h3⟩
theorem tyGo_tend (l : List GTyItem) : tyGo 1 l = (l.all itemOk && decide (tend l (l.length + 1) 0 = l.length)) := by
  rw [tyGo_rest, tend_eq l _ 0 (by omega)]
  congr 1
  unfold endT
  rw [List.drop_zero]
  cases h : restT 1 l with
  | none => simp
  | some r =>
    cases r with
    | nil => simp
    | cons a r => simp; omega

set_option maxRecDepth 100000 in
set_option maxHeartbeats 4000000 in
theorem tyName_c (x : GTyItem) (hx : x.wf) (w : World) :
    Calls Tryz.prog 154 #[.agg #[.int .i64 x.var, .string x.name, .int .i64 x.arity]] w fun e w' => e = .returned (.bool (tyNameOk x)) ∧ Below w.heap.size w w' := by
  obtain ⟨xv, xs, xa⟩ := x
  have cN := fun W => impl_NameOk_c xs hx.2.1 W
  unfold tyNameOk
  dsimp only
  generalize nameOk xs = no at *
  have key : ∀ l : List UInt8, (xs.toList == l) = true → l ≠ sRef → (xs.toList == sRef) = false := fun l h1 h2 => by rw [eq_of_beq h1]; simpa using h2
  cases e1 : (xs.toList == sRef) <;> cases e2 : (xs.toList == sArrow) <;> cases e3 : (xs.toList == sStar) <;> cases e4 : (xa == 1) <;> cases e5 : (xa == 2)
  all_goals unfold sRef at e1
  all_goals unfold sArrow at e2
  all_goals unfold sStar at e3
  all_goals clear key hx
  all_goals
    go_enter Tryz.func154, Tryz.ntmps154
    go_upto_region 1 with fail
    have D : RowAt (w.alloc (.cells #[.int .i64 xv, .string xs, .int .i64 xa] 106)) (w.heap.size) 0 [.int .i64 xv, .string xs, .int .i64 xa] := RowAt.box w #[.int .i64 xv, .string xs, .int .i64 xa] 106
    have hw : Below w.heap.size w (w.alloc (.cells #[.int .i64 xv, .string xs, .int .i64 xa] 106)) := by go_grown
    generalize (w.alloc (.cells #[.int .i64 xv, .string xs, .int .i64 xa] 106)) = w0 at *
    obtain ⟨d_0, d_1, d_2⟩ := D.box3; have hsD := World.block_lt_of_cell? _ _ d_0; dsimp only at hsD
    go_wp2_with (go_at_call 45; ((with_reducible refine (cN _).mono ?_); rintro e w1 ⟨rfl, hb⟩; have hw := hw.trans (hb.mono hw.size); have D := D.below hb; obtain ⟨d_0, d_1, d_2⟩ := D.box3; have hsD := World.block_lt_of_cell? _ _ d_0; dsimp only at hsD; clear hb))
    go_returns
    exact ⟨rfl, hw⟩

set_option maxRecDepth 100000 in
set_option maxHeartbeats 8000000 in
theorem tyOk_c (l : List GTyItem) (hl : l.length ≤ 1152921504606846976) (v : Value) (lo : Nat) (w : World) (hv : Sl GTyItem.R 3 lo w v l) :
    Calls Tryz.prog 129 #[v] w fun e w' => e = .returned (.bool (tyGo 1 l)) ∧ Below w.heap.size w w' := by
  obtain ⟨a, c, rfl, ul, um, h0⟩ := hv
  obtain ⟨n, hn⟩ : ∃ n, n = l.length := ⟨_, rfl⟩
  rw [← hn] at ul hl ⊢
  replace hn := Lib.hid hn
  generalize hr : tyGo 1 l = res
  have hr0 : Hid (tyGo 1 (l.drop 0) = res) := by rw [List.drop_zero]; exact hr
  clear hr
  replace h0 := Lib.hid h0
  go_enter Tryz.func129, Tryz.ntmps129
  go_wp2_with fail
  go_loopw [3, 8] (fun nd ii wr => ∃ k m : Nat, k ≤ n ∧ m ≤ 2 * k + 1 ∧ nd = .int .i64 m ∧ ii = .int .i64 k ∧ Hid (tyGo m (l.drop k) = res) ∧ Below w.heap.size w wr) (fun _ ii _ => n - (intOf ii).toNat)
  case atStart => exact ⟨0, 1, by omega, by omega, rfl, rfl, hr0, Below.refl _ _⟩
  case round =>
    clear hr0
    obtain ⟨k, m, hk, hm, rfl, rfl, hr, hw⟩ := hrel
    by_cases hlt : k < n
    · obtain ⟨b1, o1, x, s1, _, rfl, P1, ⟨rfl, hwf⟩, r1⟩ := (h0.out.below GTyItem.good hw).get hn.out hlt
      have hdrop : l.drop k = x :: l.drop (k + 1) := by
        obtain ⟨hjl, he⟩ := List.getElem?_eq_some_iff.1 P1.out
        rw [List.drop_eq_getElem_cons hjl, he]
      obtain ⟨e_0, e_1, e_2⟩ := r1.cells3
      have hb1 := World.block_lt_of_cell? _ _ e_0; dsimp only at hb1
      by_cases hm0 : m = 0
      · subst hm0
        have hres : res = false := by rw [← hr.out, hdrop]; rfl
        subst hres
        clear hr P1 hwf hdrop
        go_wp2_with fail
        go_returns
        exact ⟨rfl, hw.trans (Below.mono (by go_grown) hw.size)⟩
      obtain ⟨m, rfl⟩ : ∃ m', m = m' + 1 := ⟨m - 1, by omega⟩
      have hres : (itemOk x && tyGo (m + x.arity.toNat) (l.drop (k + 1))) = res := by rw [← hr.out, hdrop]; rfl
      have har := fun h => itemOk_ar (x := x) h
      have cN := fun W => tyName_c x hwf W
      obtain ⟨xv, xs, xa⟩ := x
      dsimp only at *
      have hI : itemOk ⟨xv, xs, xa⟩ = if xs.toList.isEmpty then (decide (0 ≤ xv ∧ xv ≤ 9999) && xa == 0) else (xv == 0 && (decide (0 ≤ xa ∧ xa ≤ 2) && tyNameOk ⟨xv, xs, xa⟩)) := rfl
      generalize itemOk ⟨xv, xs, xa⟩ = q at *
      generalize tyNameOk ⟨xv, xs, xa⟩ = tn at *
      have cW := fun W => within_c xv 0 9999 W
      have cW2 := fun W => within_c xa 0 2 W
      generalize hd1 : decide (0 ≤ xv ∧ xv ≤ 9999) = d1 at *
      generalize hd2 : decide (0 ≤ xa ∧ xa ≤ 2) = d2 at *
      have em : (((m + 1 : Nat) : Int) == 0) = false := by simp; omega
      have xI : I64 xa := hwf.2.2
      clear P1 hdrop hr r1 hwf hd1 hd2 hm0
      have hx0 : (xa == 0) = true → xa = 0 := fun h => by simpa using h
      replace hres := Lib.hid hres; replace har := Lib.hid har; replace xI := Lib.hid xI; replace hx0 := Lib.hid hx0
      have hnext : ∀ W, q = true → Below w.heap.size w W → ∃ k' m' : Nat, k' ≤ n ∧ m' ≤ 2 * k' + 1 ∧ (.int .i64 ((m : Int) + xa) : Value) = .int .i64 m' ∧ (.int .i64 ((k : Int) + 1) : Value) = .int .i64 k' ∧ Hid (tyGo m' (l.drop k') = res) ∧ Below w.heap.size w W := fun W hq hW => by
        have h1 := har.out hq
        refine ⟨k + 1, m + xa.toNat, by omega, by omega, by go_num, by go_num, ?_, hW⟩
        show _ = _
        rw [← hres.out, hq]; rfl
      replace hnext := Lib.hid hnext
      have hz := hw.size
      go_upto_region 5 with fail
      have hb1' : Below wr.heap.size wr (wr.alloc (.cells #[.int .i64 xv, .string xs, .int .i64 xa] 106)) := by go_grown
      have D : RowAt (wr.alloc (.cells #[.int .i64 xv, .string xs, .int .i64 xa] 106)) wr.heap.size 0 [.int .i64 xv, .string xs, .int .i64 xa] := RowAt.box _ _ _
      have hw' := hw.trans (hb1'.mono hz)
      generalize wr.alloc (.cells #[.int .i64 xv, .string xs, .int .i64 xa] 106) = w0 at *
      clear hw hb1' e_0 e_1 e_2 hz
      have hw := hw'; clear hw'
      obtain ⟨d_0, d_1, d_2⟩ := D.box3; have hsD := World.block_lt_of_cell? _ _ d_0; dsimp only at hsD
      have eb : ∀ y : Int, (y != 0) = !(y == 0) := fun y => rfl
      cases e1 : xs.toList.isEmpty
      · rw [e1] at hI
        cases e2 : (xv == 0)
        · rw [e2] at hI
          have q0 : q = false := hI
          subst q0
          have hres0 := hres.out
          rw [Bool.false_and] at hres0
          clear hres hI
          subst hres0
          have e2' : (xv != 0) = true := by rw [eb, e2]; rfl
          clear eb
          go_wp2_with fail
          go_returns
          exact ⟨rfl, hw⟩
        · have e2' : (xv != 0) = false := by rw [eb, e2]; rfl
          rw [e2] at hI
          replace hI : q = (d2 && tn) := hI
          clear eb
          cases d2
          · subst hI
            have hres0 := hres.out
            rw [Bool.false_and, Bool.false_and] at hres0
            clear hres
            subst hres0
            go_wp2_with (first | (go_at_call 75; ((with_reducible refine (cW2 _).mono ?_); rintro e w1 ⟨rfl, rfl⟩)) | (go_at_call 154; ((with_reducible refine (cN _).mono ?_); rintro e w1 ⟨rfl, hb⟩; have hw := hw.trans (hb.mono hw.size); have D := D.below hb; obtain ⟨d_0, d_1, d_2⟩ := D.box3; have hsD := World.block_lt_of_cell? _ _ d_0; dsimp only at hsD; clear hb)))
            go_returns
            exact ⟨rfl, hw⟩
          · cases tn
            · subst hI
              have hres0 := hres.out
              rw [Bool.and_false, Bool.false_and] at hres0
              clear hres
              subst hres0
              go_wp2_with (first | (go_at_call 75; ((with_reducible refine (cW2 _).mono ?_); rintro e w1 ⟨rfl, rfl⟩)) | (go_at_call 154; ((with_reducible refine (cN _).mono ?_); rintro e w1 ⟨rfl, hb⟩; have hw := hw.trans (hb.mono hw.size); have D := D.below hb; obtain ⟨d_0, d_1, d_2⟩ := D.box3; have hsD := World.block_lt_of_cell? _ _ d_0; dsimp only at hsD; clear hb)))
              go_returns
              exact ⟨rfl, hw⟩
            · subst hI
              have hxa : 0 ≤ xa ∧ xa ≤ 2 := har.out rfl
              clear har hx0
              go_wp2_with (first | (go_at_call 75; ((with_reducible refine (cW2 _).mono ?_); rintro e w1 ⟨rfl, rfl⟩)) | (go_at_call 154; ((with_reducible refine (cN _).mono ?_); rintro e w1 ⟨rfl, hb⟩; have hw := hw.trans (hb.mono hw.size); have D := D.below hb; obtain ⟨d_0, d_1, d_2⟩ := D.box3; have hsD := World.block_lt_of_cell? _ _ d_0; dsimp only at hsD; clear hb)))
              have hN := hnext.out _ rfl hw
              go_roundw
              case rel => exact hN
              case measure => simp [intOf]; omega
      · rw [e1] at hI
        replace hI : q = (d1 && xa == 0) := hI
        cases e2 : (xa == 0)
        · have e2' : (xa != 0) = true := by rw [eb, e2]; rfl
          rw [e2, Bool.and_false] at hI
          subst hI
          have hres0 := hres.out
          rw [Bool.false_and] at hres0
          clear hres eb
          subst hres0
          cases d1
          all_goals
            go_wp2_with (first | (go_at_call 75; ((with_reducible refine (cW _).mono ?_); rintro e w1 ⟨rfl, rfl⟩)) | (go_at_call 154; ((with_reducible refine (cN _).mono ?_); rintro e w1 ⟨rfl, hb⟩; have hw := hw.trans (hb.mono hw.size); have D := D.below hb; obtain ⟨d_0, d_1, d_2⟩ := D.box3; have hsD := World.block_lt_of_cell? _ _ d_0; dsimp only at hsD; clear hb)))
            go_returns
            exact ⟨rfl, hw⟩
        · have e2' : (xa != 0) = false := by rw [eb, e2]; rfl
          rw [e2, Bool.and_true] at hI
          clear eb
          have hxa := hx0.out e2
          cases d1
          · subst hI
            have hres0 := hres.out
            rw [Bool.false_and] at hres0
            clear hres
            subst hres0
            clear hxa
            go_wp2_with (first | (go_at_call 75; ((with_reducible refine (cW _).mono ?_); rintro e w1 ⟨rfl, rfl⟩)) | (go_at_call 154; ((with_reducible refine (cN _).mono ?_); rintro e w1 ⟨rfl, hb⟩; have hw := hw.trans (hb.mono hw.size); have D := D.below hb; obtain ⟨d_0, d_1, d_2⟩ := D.box3; have hsD := World.block_lt_of_cell? _ _ d_0; dsimp only at hsD; clear hb)))
            go_returns
            exact ⟨rfl, hw⟩
          · subst hI
            have hz0 : (.int .i64 ((m : Int) + xa) : Value) = .int .i64 (m : Int) := by rw [hxa]; go_num
            have hN0 := fun W hW => hnext.out W rfl hW
            rw [hz0] at hN0
            replace hN0 := Lib.hid hN0
            clear hnext har hx0 hz0 hxa
            go_wp2_with (first | (go_at_call 75; ((with_reducible refine (cW _).mono ?_); rintro e w1 ⟨rfl, rfl⟩)) | (go_at_call 154; ((with_reducible refine (cN _).mono ?_); rintro e w1 ⟨rfl, hb⟩; have hw := hw.trans (hb.mono hw.size); have D := D.below hb; obtain ⟨d_0, d_1, d_2⟩ := D.box3; have hsD := World.block_lt_of_cell? _ _ d_0; dsimp only at hsD; clear hb)))
            have hN := hN0.out _ hw
            go_roundw
            case rel => exact hN
            case measure => simp [intOf]; omega
    · obtain rfl : k = n := by omega
      have hres : (m == 0) = res := by rw [← hr.out, List.drop_of_length_le (by rw [← hn.out]; exact Nat.le_refl _)]; cases m <;> rfl
      clear hr
      have em : ((m : Int) == 0) = res := by rw [← hres]; cases m <;> simp <;> omega
      clear hres
      go_wp2_with fail
      go_returns
      exact ⟨rfl, hw⟩
end Go.Proofs.YtaimekaagmcmnaaGreat

/- TyOk of both. -/
namespace Go.Proofs.YtaimekaagmcmnaaGreat
open Go.RowKit
set_option linter.unusedVariables false
set_option linter.unusedSimpArgs false
attribute [local go_sem] Ext.cell

set_option maxRecDepth 100000 in
set_option maxHeartbeats 4000000 in
theorem TyOk_c (x : GTy) (hl : x.items.length ≤ 1152921504606846976) (r : List Value) (lo : Nat) (w : World) (hr : GTy.R lo w r x) :
    Calls Tryz.prog 112 #[.agg r.toArray] w fun e w' => e = .returned (.bool (tyOk x)) ∧ Below w.heap.size w w' := by
  obtain ⟨u0, rfl, -, a0⟩ := hr
  have cT := fun W (hW : Below w.heap.size w W) => tyOk_c x.items hl u0 lo W (a0.below GTyItem.good hW)
  obtain ⟨a, c, rfl⟩ := a0.form
  unfold tyOk
  generalize tyGo 1 x.items = t at *
  generalize x.items.length = n at *
  clear a0
  replace cT := Lib.hid cT
  generalize hd : decide ((n : Int) ≤ 200) = d
  have hd2 : decide (n ≤ 200) = d := by rw [← hd, decide_eq_decide]; omega
  cases d
  all_goals
    show Calls Tryz.prog 112 #[.agg #[.slice a n c]] w _
    go_enter Tryz.func112, Tryz.ntmps112
    go_upto_region 1 with fail
    have D : RowAt (w.alloc (.cells #[.slice a n c] 68)) (w.heap.size) 0 [.slice a n c] := RowAt.box w #[.slice a n c] 68
    have hw : Below w.heap.size w (w.alloc (.cells #[.slice a n c] 68)) := by go_grown
    generalize (w.alloc (.cells #[.slice a n c] 68)) = w0 at *
    have d_0 := D.box1; have hsD := World.block_lt_of_cell? _ _ d_0; dsimp only at hsD
    go_wp2_with (go_at_call 129; ((with_reducible refine (cT.out _ hw).mono ?_); rintro e w1 ⟨rfl, hb⟩; have hw := hw.trans (hb.mono hw.size); have D := D.below hb; have d_0 := D.box1; have hsD := World.block_lt_of_cell? _ _ d_0; dsimp only at hsD; clear hb))
    go_returns
    exact ⟨rfl, hw⟩

set_option maxRecDepth 100000 in
set_option maxHeartbeats 4000000 in
theorem l04Item_c (x : GTyItem) (hx : x.wf) (w : World) :
    Calls Tryz.prog 100 #[.agg #[.int .i64 x.var, .string x.name, .int .i64 x.arity]] w fun e w' => e = .returned (.bool (itemOk x)) ∧ Below w.heap.size w w' := by
  obtain ⟨xv, xs, xa⟩ := x
  have cN := fun W => spec_NameOk_c xs hx.2.1 W
  have ev : decide (0 ≤ xv ∧ xv ≤ 9999) = (decide (0 ≤ xv) && decide (xv ≤ 9999)) := by rw [Bool.decide_and]
  have ea : decide (0 ≤ xa ∧ xa ≤ 2) = (decide (0 ≤ xa) && decide (xa ≤ 2)) := by rw [Bool.decide_and]
  have x1 : (xa == 1) = true → decide (0 ≤ xa) = true ∧ decide (xa ≤ 2) = true := fun h => by simp at h; subst h; simp
  have x2 : (xa == 2) = true → decide (0 ≤ xa) = true ∧ decide (xa ≤ 2) = true := fun h => by simp at h; subst h; simp
  have k12 : (xs.toList == sRef) = true → (xs.toList == sArrow) = false ∧ (xs.toList == sStar) = false := fun h => by rw [eq_of_beq h]; decide
  unfold itemOk tyNameOk
  dsimp only
  rw [ev, ea]
  unfold sRef sArrow sStar at *
  generalize nameOk xs = no at *
  have eb : ∀ y : Int, (y != 0) = !(y == 0) := fun y => rfl
  have e0 := eb xv
  clear hx ev ea eb
  obtain ⟨q1, hq1⟩ : ∃ q, decide (0 ≤ xv) = q := ⟨_, rfl⟩
  obtain ⟨q2, hq2⟩ : ∃ q, decide (xv ≤ 9999) = q := ⟨_, rfl⟩
  obtain ⟨q3, hq3⟩ : ∃ q, decide (0 ≤ xa) = q := ⟨_, rfl⟩
  obtain ⟨q4, hq4⟩ : ∃ q, decide (xa ≤ 2) = q := ⟨_, rfl⟩
  rw [hq1, hq2, hq3, hq4]
  rw [hq3, hq4] at x1 x2
  cases e1 : xs.toList.isEmpty
  · cases e2 : (xv == 0)
    · have e0' : (xv != 0) = true := by rw [e0, e2]; rfl
      clear e0 x1 x2 k12 hq1 hq2 hq3 hq4
      go_enter Tryz.func100, Tryz.ntmps100
      go_upto_region 1 with fail
      have D : RowAt (w.alloc (.cells #[.int .i64 xv, .string xs, .int .i64 xa] 106)) (w.heap.size) 0 [.int .i64 xv, .string xs, .int .i64 xa] := RowAt.box w #[.int .i64 xv, .string xs, .int .i64 xa] 106
      have hw : Below w.heap.size w (w.alloc (.cells #[.int .i64 xv, .string xs, .int .i64 xa] 106)) := by go_grown
      generalize (w.alloc (.cells #[.int .i64 xv, .string xs, .int .i64 xa] 106)) = w0 at *
      obtain ⟨d_0, d_1, d_2⟩ := D.box3; have hsD := World.block_lt_of_cell? _ _ d_0; dsimp only at hsD
      go_wp2_with (go_at_call 34; ((with_reducible refine (cN _).mono ?_); rintro e w1 ⟨rfl, hb⟩; have hw := hw.trans (hb.mono hw.size); have D := D.below hb; obtain ⟨d_0, d_1, d_2⟩ := D.box3; have hsD := World.block_lt_of_cell? _ _ d_0; dsimp only at hsD; clear hb))
      go_returns
      exact ⟨rfl, hw⟩
    · have e0' : (xv != 0) = false := by rw [e0, e2]; rfl
      clear e0 hq1 hq2
      cases b1 : (xs.toList == [114, 101, 102])
      · clear k12
        cases b2 : (xs.toList == [45, 62])
        · cases b3 : (xs.toList == [42])
          · clear x1 x2
            cases q3 <;> cases q4 <;> cases no
            all_goals
              go_enter Tryz.func100, Tryz.ntmps100
              go_upto_region 1 with fail
              have D : RowAt (w.alloc (.cells #[.int .i64 xv, .string xs, .int .i64 xa] 106)) (w.heap.size) 0 [.int .i64 xv, .string xs, .int .i64 xa] := RowAt.box w #[.int .i64 xv, .string xs, .int .i64 xa] 106
              have hw : Below w.heap.size w (w.alloc (.cells #[.int .i64 xv, .string xs, .int .i64 xa] 106)) := by go_grown
              generalize (w.alloc (.cells #[.int .i64 xv, .string xs, .int .i64 xa] 106)) = w0 at *
              obtain ⟨d_0, d_1, d_2⟩ := D.box3; have hsD := World.block_lt_of_cell? _ _ d_0; dsimp only at hsD
              go_wp2_with (go_at_call 34; ((with_reducible refine (cN _).mono ?_); rintro e w1 ⟨rfl, hb⟩; have hw := hw.trans (hb.mono hw.size); have D := D.below hb; obtain ⟨d_0, d_1, d_2⟩ := D.box3; have hsD := World.block_lt_of_cell? _ _ d_0; dsimp only at hsD; clear hb))
              go_returns
              exact ⟨rfl, hw⟩
          · cases a2 : (xa == 2)
            rotate_left
            obtain ⟨rfl, rfl⟩ := x2 a2
            rotate_left
            all_goals clear x1 x2 hq3 hq4
            cases q3 <;> cases q4
            all_goals
              go_enter Tryz.func100, Tryz.ntmps100
              go_upto_region 1 with fail
              have D : RowAt (w.alloc (.cells #[.int .i64 xv, .string xs, .int .i64 xa] 106)) (w.heap.size) 0 [.int .i64 xv, .string xs, .int .i64 xa] := RowAt.box w #[.int .i64 xv, .string xs, .int .i64 xa] 106
              have hw : Below w.heap.size w (w.alloc (.cells #[.int .i64 xv, .string xs, .int .i64 xa] 106)) := by go_grown
              generalize (w.alloc (.cells #[.int .i64 xv, .string xs, .int .i64 xa] 106)) = w0 at *
              obtain ⟨d_0, d_1, d_2⟩ := D.box3; have hsD := World.block_lt_of_cell? _ _ d_0; dsimp only at hsD
              go_wp2_with (go_at_call 34; ((with_reducible refine (cN _).mono ?_); rintro e w1 ⟨rfl, hb⟩; have hw := hw.trans (hb.mono hw.size); have D := D.below hb; obtain ⟨d_0, d_1, d_2⟩ := D.box3; have hsD := World.block_lt_of_cell? _ _ d_0; dsimp only at hsD; clear hb))
              go_returns
              exact ⟨rfl, hw⟩
        · cases a2 : (xa == 2)
          rotate_left
          obtain ⟨rfl, rfl⟩ := x2 a2
          rotate_left
          all_goals clear x1 x2 hq3 hq4
          cases q3 <;> cases q4
          all_goals
            go_enter Tryz.func100, Tryz.ntmps100
            go_upto_region 1 with fail
            have D : RowAt (w.alloc (.cells #[.int .i64 xv, .string xs, .int .i64 xa] 106)) (w.heap.size) 0 [.int .i64 xv, .string xs, .int .i64 xa] := RowAt.box w #[.int .i64 xv, .string xs, .int .i64 xa] 106
            have hw : Below w.heap.size w (w.alloc (.cells #[.int .i64 xv, .string xs, .int .i64 xa] 106)) := by go_grown
            generalize (w.alloc (.cells #[.int .i64 xv, .string xs, .int .i64 xa] 106)) = w0 at *
            obtain ⟨d_0, d_1, d_2⟩ := D.box3; have hsD := World.block_lt_of_cell? _ _ d_0; dsimp only at hsD
            go_wp2_with (go_at_call 34; ((with_reducible refine (cN _).mono ?_); rintro e w1 ⟨rfl, hb⟩; have hw := hw.trans (hb.mono hw.size); have D := D.below hb; obtain ⟨d_0, d_1, d_2⟩ := D.box3; have hsD := World.block_lt_of_cell? _ _ d_0; dsimp only at hsD; clear hb))
            go_returns
            exact ⟨rfl, hw⟩
      · obtain ⟨b2, b3⟩ := k12 b1
        clear k12
        cases a1 : (xa == 1)
        rotate_left
        obtain ⟨rfl, rfl⟩ := x1 a1
        rotate_left
        all_goals clear x1 x2 hq3 hq4
        cases q3 <;> cases q4
        all_goals
          go_enter Tryz.func100, Tryz.ntmps100
          go_upto_region 1 with fail
          have D : RowAt (w.alloc (.cells #[.int .i64 xv, .string xs, .int .i64 xa] 106)) (w.heap.size) 0 [.int .i64 xv, .string xs, .int .i64 xa] := RowAt.box w #[.int .i64 xv, .string xs, .int .i64 xa] 106
          have hw : Below w.heap.size w (w.alloc (.cells #[.int .i64 xv, .string xs, .int .i64 xa] 106)) := by go_grown
          generalize (w.alloc (.cells #[.int .i64 xv, .string xs, .int .i64 xa] 106)) = w0 at *
          obtain ⟨d_0, d_1, d_2⟩ := D.box3; have hsD := World.block_lt_of_cell? _ _ d_0; dsimp only at hsD
          go_wp2_with (go_at_call 34; ((with_reducible refine (cN _).mono ?_); rintro e w1 ⟨rfl, hb⟩; have hw := hw.trans (hb.mono hw.size); have D := D.below hb; obtain ⟨d_0, d_1, d_2⟩ := D.box3; have hsD := World.block_lt_of_cell? _ _ d_0; dsimp only at hsD; clear hb))
          go_returns
          exact ⟨rfl, hw⟩
  · cases q1 <;> cases q2 <;> cases e3 : (xa == 0)
    all_goals clear x1 x2 k12 e0 hq3 hq4
    all_goals
      go_enter Tryz.func100, Tryz.ntmps100
      go_upto_region 1 with fail
      have D : RowAt (w.alloc (.cells #[.int .i64 xv, .string xs, .int .i64 xa] 106)) (w.heap.size) 0 [.int .i64 xv, .string xs, .int .i64 xa] := RowAt.box w #[.int .i64 xv, .string xs, .int .i64 xa] 106
      have hw : Below w.heap.size w (w.alloc (.cells #[.int .i64 xv, .string xs, .int .i64 xa] 106)) := by go_grown
      generalize (w.alloc (.cells #[.int .i64 xv, .string xs, .int .i64 xa] 106)) = w0 at *
      obtain ⟨d_0, d_1, d_2⟩ := D.box3; have hsD := World.block_lt_of_cell? _ _ d_0; dsimp only at hsD
      go_wp2_with (go_at_call 34; ((with_reducible refine (cN _).mono ?_); rintro e w1 ⟨rfl, hb⟩; have hw := hw.trans (hb.mono hw.size); have D := D.below hb; obtain ⟨d_0, d_1, d_2⟩ := D.box3; have hsD := World.block_lt_of_cell? _ _ d_0; dsimp only at hsD; clear hb))
      go_returns
      exact ⟨rfl, hw⟩
end Go.Proofs.YtaimekaagmcmnaaGreat
