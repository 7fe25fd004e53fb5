/- Values are recovered from their texts: a reader in plain Lean, and what it reads of a right value's text. -/
import Derived.Test.YtpblhonnknmjjaaText8
namespace Go.Proofs.Ytpblhonnknmjjaa
open Go.RowKit
set_option linter.unusedVariables false
set_option linter.unusedSimpArgs false

/-- A byte that ends a word: space, comma, either parenthesis. -/
def stopB (b : UInt8) : Bool := b == 32 || b == 44 || b == 41 || b == 40
def wOf (l : List UInt8) : List UInt8 := l.takeWhile fun b => !stopB b
def wRest (l : List UInt8) : List UInt8 := l.dropWhile fun b => !stopB b
def isAt (t l : List UInt8) : Bool := t.isPrefixOf l
def kColons : List UInt8 := [32, 58, 58, 32]
def kComma : List UInt8 := [44, 32]
def In63 (n : Int) : Prop := -4611686018427387904 ≤ n ∧ n ≤ 4611686018427387903
def numL (n : Int) : List UInt8 := (numText n).data.toList
open Classical in
noncomputable def textNum (l : List UInt8) : Option Int := if h : ∃ n, In63 n ∧ numL n = l then some h.choose else none
open Classical in
noncomputable def unquote (l : List UInt8) : Option ByteArray := if h : ∃ s : ByteArray, (quoteS s).data.toList = l then some h.choose else none
/-- From behind the first quote to behind the last. -/
def scanQ : List UInt8 → Option (List UInt8 × List UInt8)
  | [] => none
  | b :: l => if b = 34 then some ([34], l) else if b = 92 then (match l with
    | [] => none
    | c :: r => (scanQ r).map fun p => (92 :: c :: p.1, p.2)) else (scanQ l).map fun p => (b :: p.1, p.2)
def upHead (l : List UInt8) : Bool := match l with
  | [] => false
  | b :: _ => decide (65 ≤ b.toNat ∧ b.toNat ≤ 90)
def tInt (n : Int) : PxT := .mk 3 n ByteArray.empty []
def tStr (s : ByteArray) : PxT := .mk 2 0 s []
def tUnit : PxT := .mk 6 0 ByteArray.empty []
def tCon0 (s : ByteArray) : PxT := .mk 4 0 s []
def tPair (a b : PxT) : PxT := .mk 5 0 ByteArray.empty [a, b]
def tCons (a b : PxT) : PxT := .mk 4 0 ⟨sCons.toArray⟩ [tPair a b]
def tCon1 (s : ByteArray) (a : PxT) : PxT := .mk 4 0 s [a]
abbrev Rd := List UInt8 → Option (PxT × List UInt8)
/-- What stands behind a parenthesis. -/
def readIn (rd : Rd) : Rd := fun l =>
  if isAt [41] l then some (tUnit, l.drop 1)
  else if (upHead l && (isAt [32] (wRest l) && !isAt kColons (wRest l))) = true then
    match rd ((wRest l).drop 1) with
    | none => none
    | some (k, r) => if isAt [41] r then some (tCon1 ⟨(wOf l).toArray⟩ k, r.drop 1) else none
  else match rd l with
    | none => none
    | some (a, r) =>
      if isAt kColons r then match rd (r.drop 4) with
        | none => none
        | some (b, r2) => if isAt [41] r2 then some (tCons a b, r2.drop 1) else none
      else if isAt kComma r then match rd (r.drop 2) with
        | none => none
        | some (b, r2) => if isAt [41] r2 then some (tPair a b, r2.drop 1) else none
      else none
open Classical in
/-- The reference's reader: f more parentheses may be opened. -/
noncomputable def readS : Nat → Rd
  | 0, _ => none
  | f + 1, l => match l with
    | [] => none
    | b :: l' => if b = 40 then readIn (readS f) l'
      else if b = 34 then match scanQ l' with
        | none => none
        | some (p, r) => match unquote (34 :: p) with
          | none => none
          | some s => some (tStr s, r)
      else match textNum (wOf l) with
        | some n => some (tInt n, wRest l)
        | none => some (tCon0 ⟨(wOf l).toArray⟩, wRest l)

/-! ### What may stand behind a value -/
def GoodR (r : List UInt8) : Prop := ∀ b l, r = b :: l → stopB b = true
theorem goodR_nil : GoodR [] := fun b l h => by cases h
theorem goodR_cons {b : UInt8} {l : List UInt8} (h : stopB b = true) : GoodR (b :: l) := fun c m e => by injection e with e1 e2; rw [← e1]; exact h
theorem span_word : ∀ {w r : List UInt8}, (∀ b ∈ w, stopB b = false) → GoodR r → wOf (w ++ r) = w ∧ wRest (w ++ r) = r
  | [], r, _, h => by
    cases r with
    | nil => exact ⟨rfl, rfl⟩
    | cons b l =>
      have := h b l rfl
      simp [wOf, wRest, this]
  | c :: w, r, h0, h => by
    have hc := h0 c (by simp)
    obtain ⟨h1, h2⟩ := span_word (w := w) (r := r) (fun b hb => h0 b (by simp [hb])) h
    unfold wOf at h1 ⊢
    unfold wRest at h2 ⊢
    simp only [List.cons_append, List.takeWhile_cons, List.dropWhile_cons, hc, Bool.not_false, if_true, h1, h2, and_self]
theorem isAt_self (t r : List UInt8) : isAt t (t ++ r) = true := by unfold isAt; simp
theorem isAt_one {b : UInt8} {l : List UInt8} {c : UInt8} : isAt [c] (b :: l) = (c == b) := by simp [isAt, List.isPrefixOf]

/-! ### Numbers -/
def digVal (b : UInt8) : Nat := b.toNat - 48
def revVal : List UInt8 → Nat
  | [] => 0
  | b :: l => digVal b + 10 * revVal l
theorem revVal_revd (n : Nat) : revVal (revd n) = n := by
  induction n using Nat.strongRecOn with
  | _ n ih =>
    by_cases h : n < 10
    · rw [revd_small h]
      show digVal (dig n) + 10 * 0 = n
      unfold digVal
      rw [dig_toNat]
      omega
    · rw [revd_step h]
      show digVal (dig n) + 10 * revVal (revd (n / 10)) = n
      rw [ih (n / 10) (by omega)]
      unfold digVal
      rw [dig_toNat]
      omega
theorem revd_digits : ∀ (m n : Nat), n ≤ m → ∀ b ∈ revd n, 48 ≤ b.toNat ∧ b.toNat ≤ 57
  | m, n, hm, b, hb => by
    by_cases h : n < 10
    · rw [revd_small h] at hb
      simp at hb; subst hb
      rw [dig_toNat]; omega
    · rw [revd_step h] at hb
      rcases List.mem_cons.1 hb with rfl | hb
      · rw [dig_toNat]; omega
      · exact revd_digits (n / 10) (n / 10) (Nat.le_refl _) b hb
termination_by _ n => n
theorem revd_ne (n : Nat) : revd n ≠ [] := by
  by_cases h : n < 10
  · rw [revd_small h]; simp
  · rw [revd_step h]; simp
theorem numS_list (n : Nat) : (numS n).data.toList = (revd n).reverse := rfl
theorem numL_eq {n : Int} (h : In63 n) : numL n = if n < 0 then 45 :: (revd n.natAbs).reverse else (revd n.natAbs).reverse := by
  unfold numL numText
  rw [if_pos (by unfold In63 at h; omega)]
  split
  · rw [ByteArray.data_append]
    rw [Array.toList_append]
    rfl
  · rfl
theorem numL_ne {n : Int} (h : In63 n) : numL n ≠ [] := by
  rw [numL_eq h]
  split
  · simp
  · simpa using revd_ne _
theorem numL_bytes {n : Int} (h : In63 n) : ∀ b ∈ numL n, b.toNat = 45 ∨ (48 ≤ b.toNat ∧ b.toNat ≤ 57) := by
  rw [numL_eq h]
  intro b hb
  split at hb
  · rcases List.mem_cons.1 hb with rfl | hb
    · exact .inl rfl
    · exact .inr (revd_digits _ _ (Nat.le_refl _) b (by simpa using hb))
  · exact .inr (revd_digits _ _ (Nat.le_refl _) b (by simpa using hb))
theorem numL_inj {n m : Int} (hn : In63 n) (hm : In63 m) (h : numL n = numL m) : n = m := by
  have key : ∀ a b : Nat, (revd a).reverse = (revd b).reverse → a = b := fun a b h => by
    have h := List.reverse_inj.1 h
    rw [← revVal_revd a, ← revVal_revd b, h]
  have hd : ∀ (a : Nat) (l : List UInt8), (revd a).reverse ≠ 45 :: l := fun a l h => by
    have : (45 : UInt8) ∈ (revd a).reverse := by rw [h]; simp
    have := revd_digits _ _ (Nat.le_refl _) 45 (by simpa using this)
    simp at this
  rw [numL_eq hn, numL_eq hm] at h
  split at h <;> split at h
  · injection h with _ h; have := key _ _ h; omega
  · exact absurd h.symm (hd _ _)
  · exact absurd h (hd _ _)
  · have := key _ _ h; omega
theorem textNum_num {n : Int} (h : In63 n) : textNum (numL n) = some n := by
  unfold textNum
  have h0 : ∃ m, In63 m ∧ numL m = numL n := ⟨n, h, rfl⟩
  rw [dif_pos h0]
  exact congrArg some (numL_inj h0.choose_spec.1 h h0.choose_spec.2)
theorem textNum_no {b : UInt8} {l : List UInt8} (h1 : b.toNat ≠ 45) (h2 : ¬ (48 ≤ b.toNat ∧ b.toNat ≤ 57)) : textNum (b :: l) = none := by
  unfold textNum
  rw [dif_neg]
  rintro ⟨n, hn, he⟩
  have := numL_bytes hn b (by rw [he]; simp)
  omega

/-! ### Strings -/
theorem hxB_toNat {d : Nat} (h : d ≤ 15) : (hxB d).toNat = if d < 10 then 48 + d else 87 + d := by
  unfold hxB hxI
  have : ((if (d : Int) < 10 then 48 + (d : Int) else 87 + (d : Int)) : Int).toNat = if d < 10 then 48 + d else 87 + d := by split <;> split <;> omega
  rw [this, UInt8.toNat_ofNat', Nat.mod_eq_of_lt (by split <;> omega)]
theorem scanQ_step (b : UInt8) (l : List UInt8) : scanQ (quoteB b ++ l) = (scanQ l).map fun p => (quoteB b ++ p.1, p.2) := by
  have hlt := b.toNat_lt
  unfold quoteB
  have ne : ∀ (x : UInt8) (k : UInt8), x.toNat ≠ k.toNat → ¬ x = k := fun x k h e => h (by rw [e])
  have plain : ∀ (x : UInt8) (m : List UInt8), x.toNat ≠ 34 → x.toNat ≠ 92 → scanQ (x :: m) = (scanQ m).map fun p => (x :: p.1, p.2) := fun x m h1 h2 => by
    conv => lhs; unfold scanQ
    rw [if_neg (ne x 34 h1), if_neg (ne x 92 h2)]
  have esc : ∀ (x : UInt8) (m : List UInt8), scanQ (92 :: x :: m) = (scanQ m).map fun p => (92 :: x :: p.1, p.2) := fun x m => by
    conv => lhs; unfold scanQ
    rw [if_neg (by decide), if_pos rfl]
  split
  · exact esc 110 l
  · split
    · exact esc b l
    · split
      · exact plain b l (by omega) (by omega)
      · show scanQ (92 :: 120 :: hxB (b.toNat / 16) :: hxB (b.toNat % 16) :: l) = _
        have h1 := hxB_toNat (d := b.toNat / 16) (by omega)
        have h2 := hxB_toNat (d := b.toNat % 16) (by omega)
        rw [esc, plain _ _ (by rw [h1]; split <;> omega) (by rw [h1]; split <;> omega), plain _ _ (by rw [h2]; split <;> omega) (by rw [h2]; split <;> omega)]
        cases scanQ l <;> rfl
theorem scanQ_quote (r : List UInt8) : ∀ (l : List UInt8), scanQ (l.flatMap quoteB ++ (34 :: r)) = some (l.flatMap quoteB ++ [34], r)
  | [] => by
    show scanQ (34 :: r) = _
    unfold scanQ
    rw [if_pos rfl]; rfl
  | b :: l => by
    have e : (b :: l).flatMap quoteB = quoteB b ++ l.flatMap quoteB := by simp
    rw [e, List.append_assoc, scanQ_step, scanQ_quote r l]
    simp
theorem quoteB_ways (b : UInt8) : (b = 10 ∧ quoteB b = [92, 110]) ∨ ((b = 34 ∨ b = 92) ∧ quoteB b = [92, b]) ∨ ((32 ≤ b.toNat ∧ b.toNat ≤ 126 ∧ b ≠ 92) ∧ quoteB b = [b]) ∨ quoteB b = [92, 120, hxB (b.toNat / 16), hxB (b.toNat % 16)] := by
  have eqn : ∀ x y : UInt8, x.toNat = y.toNat → x = y := fun x y h => UInt8.toNat_inj.1 h
  unfold quoteB
  by_cases h1 : (b.toNat : Int) = 10
  · rw [if_pos h1]; exact .inl ⟨eqn _ _ (by show b.toNat = 10; omega), rfl⟩
  · rw [if_neg h1]
    by_cases h2 : (b.toNat : Int) = 34 ∨ (b.toNat : Int) = 92
    · rw [if_pos h2]
      refine .inr (.inl ⟨?_, rfl⟩)
      rcases h2 with h2 | h2
      · exact .inl (eqn _ _ (by show b.toNat = 34; omega))
      · exact .inr (eqn _ _ (by show b.toNat = 92; omega))
    · rw [if_neg h2]
      by_cases h3 : 32 ≤ (b.toNat : Int) ∧ (b.toNat : Int) ≤ 126
      · rw [if_pos h3]
        exact .inr (.inr (.inl ⟨⟨by omega, by omega, fun e => h2 (.inr (by rw [e]; decide))⟩, rfl⟩))
      · rw [if_neg h3]; exact .inr (.inr (.inr rfl))
theorem quoteB_inj {b c : UInt8} {l m : List UInt8} (h : quoteB b ++ l = quoteB c ++ m) : b = c ∧ l = m := by
  have hb := b.toNat_lt
  have hc := c.toNat_lt
  have eqn : ∀ x y : UInt8, x.toNat = y.toNat → x = y := fun x y h => UInt8.toNat_inj.1 h
  have tn : ∀ {x y : UInt8}, x = y → x.toNat = y.toNat := fun h => by rw [h]
  rcases quoteB_ways b with ⟨hb1, e1⟩ | ⟨hb1, e1⟩ | ⟨⟨_, _, hb1⟩, e1⟩ | e1 <;> rcases quoteB_ways c with ⟨hc1, e2⟩ | ⟨hc1, e2⟩ | ⟨⟨_, _, hc1⟩, e2⟩ | e2
  all_goals rw [e1, e2] at h; simp only [List.cons_append, List.nil_append, List.cons.injEq, true_and] at h
  · exact ⟨by rw [hb1, hc1], h⟩
  · exfalso; rcases hc1 with rfl | rfl <;> exact absurd h.1 (by decide)
  · exact absurd h.1.symm hc1
  · exact absurd h.1 (by decide)
  · exfalso; rcases hb1 with rfl | rfl <;> exact absurd h.1 (by decide)
  · exact h
  · exact absurd h.1.symm hc1
  · exfalso; rcases hb1 with rfl | rfl <;> exact absurd h.1 (by decide)
  · exact absurd h.1 hb1
  · exact absurd h.1 hb1
  · exact h
  · exact absurd h.1 hb1
  · exact absurd h.1 (by decide)
  · exfalso; rcases hc1 with rfl | rfl <;> exact absurd h.1 (by decide)
  · exact absurd h.1.symm hc1
  · obtain ⟨e1, e2, h⟩ := h
    have e1 := tn e1; have e2 := tn e2
    rw [hxB_toNat (by omega), hxB_toNat (by omega)] at e1 e2
    refine ⟨eqn _ _ ?_, h⟩
    split at e1 <;> split at e1 <;> split at e2 <;> split at e2 <;> omega
theorem flat_inj : ∀ {l m : List UInt8} {r q : List UInt8}, l.flatMap quoteB ++ (34 :: r) = m.flatMap quoteB ++ (34 :: q) → l = m ∧ r = q
  | [], [], r, q, h => by injection h with _ h; exact ⟨rfl, h⟩
  | [], c :: m, r, q, h => by
    exfalso
    have h1 := scanQ_quote r []
    rw [h, scanQ_quote q (c :: m)] at h1
    have h2 := congrArg (fun o => o.map fun p => p.1.length) h1
    have h3 := (quoteB_len c).2
    simp at h2
    omega
  | b :: l, [], r, q, h => by
    exfalso
    have h1 := scanQ_quote q []
    rw [← h, scanQ_quote r (b :: l)] at h1
    have h2 := congrArg (fun o => o.map fun p => p.1.length) h1
    have h3 := (quoteB_len b).2
    simp at h2
    omega
  | b :: l, c :: m, r, q, h => by
    simp only [List.flatMap_cons, List.append_assoc] at h
    obtain ⟨rfl, h2⟩ := quoteB_inj h
    obtain ⟨h3, h4⟩ := flat_inj h2
    exact ⟨by rw [h3], h4⟩
theorem quoteS_list (s : ByteArray) : (quoteS s).data.toList = 34 :: (s.data.toList.flatMap quoteB ++ [34]) := by unfold quoteS quoteL; simp
theorem quoteS_inj {s t : ByteArray} (h : (quoteS s).data.toList = (quoteS t).data.toList) : s = t := by
  rw [quoteS_list, quoteS_list] at h
  injection h with _ h
  have := (flat_inj h).1
  exact ByteArray.ext (Array.ext' this)
theorem unquote_quote (s : ByteArray) : unquote (quoteS s).data.toList = some s := by
  unfold unquote
  have h0 : ∃ t : ByteArray, (quoteS t).data.toList = (quoteS s).data.toList := ⟨s, rfl⟩
  rw [dif_pos h0]
  exact congrArg some (quoteS_inj h0.choose_spec)

end Go.Proofs.Ytpblhonnknmjjaa
