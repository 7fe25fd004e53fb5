/- Parts of the proof, merged: Read2, Less, LtLaw. -/
import Derived.Deep.RegionHeld3
import Derived.Test.YtpblhonnknmjjaaFd013
/- A right value's text is read back: what is right, its text, and that readS recovers it. -/
namespace Go.Proofs.Ytpblhonnknmjjaa
open Go.RowKit
set_option linter.unusedVariables false
set_option linter.unusedSimpArgs false

/-- A constructor without an argument. -/
def con0 (s : ByteArray) : Prop := s.data.toList = sTrue ∨ s.data.toList = sFalse ∨ s.data.toList = sNil ∨ conOk s = true
/-- t is a right value of at most F parentheses within each other, and l its text. -/
inductive Right : Nat → PxT → List UInt8 → Prop
  | int {F n} (h : In63 n) : Right (F + 1) (tInt n) (numL n)
  | str {F s} : Right (F + 1) (tStr s) (quoteS s).data.toList
  | unit {F} : Right (F + 1) tUnit [40, 41]
  | con0 {F s} (h : con0 s) : Right (F + 1) (tCon0 s) s.data.toList
  | pair {F a b la lb} (ha : Right F a la) (hb : Right F b lb) : Right (F + 1) (tPair a b) (40 :: (la ++ kComma ++ lb ++ [41]))
  | cons {F a b la lb} (ha : Right F a la) (hb : Right F b lb) : Right (F + 1) (tCons a b) (40 :: (la ++ kColons ++ lb ++ [41]))
  | con1 {F s a la} (h : conOk s = true) (ha : Right F a la) : Right (F + 1) (tCon1 s a) (40 :: (s.data.toList ++ [32] ++ la ++ [41]))

theorem Right.succ {F : Nat} {t : PxT} {l : List UInt8} (h : Right F t l) : Right (F + 1) t l := by
  induction h with
  | int h => exact .int h
  | str => exact .str
  | unit => exact .unit
  | con0 h => exact .con0 h
  | pair _ _ ia ib => exact .pair ia ib
  | cons _ _ ia ib => exact .cons ia ib
  | con1 h _ ia => exact .con1 h ia
theorem Right.mono {F : Nat} {t : PxT} {l : List UInt8} (h : Right F t l) : ∀ {G : Nat}, F ≤ G → Right G t l
  | 0, hG => by obtain rfl : F = 0 := by omega
                exact h
  | G + 1, hG => by
    by_cases e : F = G + 1
    · exact e ▸ h
    · exact (h.mono (by omega : F ≤ G)).succ

theorem wordB_stop {b : UInt8} (h : wordB b.toNat = true) : stopB b = false := by
  have tn : ∀ k : UInt8, wordB (k.toNat : Int) = false → (b == k) = false := fun k hk => by
    cases e : (b == k) with
    | false => rfl
    | true => rw [eq_of_beq e, hk] at h; cases h
  unfold stopB
  rw [tn 32 (by decide), tn 44 (by decide), tn 41 (by decide), tn 40 (by decide)]
  rfl
theorem conOk_word {s : ByteArray} (h : conOk s = true) : (∀ b ∈ s.data.toList, wordB b.toNat = true) ∧ ∃ b l, s.data.toList = b :: l ∧ 65 ≤ b.toNat ∧ b.toNat ≤ 90 := by
  unfold conOk wordOk allW at h
  simp only [Bool.and_eq_true, decide_eq_true_eq, List.all_eq_true] at h
  obtain ⟨⟨h1, h2⟩, h3⟩ := h
  refine ⟨h1, ?_⟩
  have h0 : 0 < s.size := by omega
  cases e : s.data.toList with
  | nil =>
    have : s.data.toList.length = 0 := by rw [e]; rfl
    have h4 : s.size = s.data.toList.length := rfl
    omega
  | cons b l =>
    refine ⟨b, l, rfl, ?_⟩
    unfold firstB at h3
    rw [dif_pos h0] at h3
    have hb : s[0] = b := by
      have : s.data.toList[0]? = some b := by rw [e]; rfl
      rw [Array.getElem?_toList] at this
      have h5 := Array.getElem?_eq_getElem (xs := s.data) (i := 0) h0
      rw [this] at h5
      exact (Option.some.inj h5).symm
    rw [hb] at h3
    unfold upB at h3
    simp at h3
    omega
theorem con0_word {s : ByteArray} (h : con0 s) : (∀ b ∈ s.data.toList, stopB b = false) ∧ ∃ b l, s.data.toList = b :: l ∧ ((65 ≤ b.toNat ∧ b.toNat ≤ 90) ∨ b = 116 ∨ b = 102 ∨ b = 91) := by
  rcases h with h | h | h | h
  · rw [h]; exact ⟨by decide, 116, _, rfl, .inr (.inl rfl)⟩
  · rw [h]; exact ⟨by decide, 102, _, rfl, .inr (.inr (.inl rfl))⟩
  · rw [h]; exact ⟨by decide, 91, _, rfl, .inr (.inr (.inr rfl))⟩
  · obtain ⟨h1, b, l, e, h2, h3⟩ := conOk_word h
    exact ⟨fun c hc => wordB_stop (h1 c hc), b, l, e, .inl ⟨h2, h3⟩⟩
theorem numL_word {n : Int} (h : In63 n) : (∀ b ∈ numL n, stopB b = false) ∧ ∃ b l, numL n = b :: l ∧ (b.toNat = 45 ∨ (48 ≤ b.toNat ∧ b.toNat ≤ 57)) := by
  have h1 := numL_bytes h
  refine ⟨fun b hb => ?_, ?_⟩
  · have h2 := h1 b hb
    have tn : ∀ k : UInt8, k.toNat ≠ 45 → ¬ (48 ≤ k.toNat ∧ k.toNat ≤ 57) → (b == k) = false := fun k h3 h4 => by
      cases e : (b == k) with
      | false => rfl
      | true => rw [eq_of_beq e] at h2; omega
    unfold stopB
    rw [tn 32 (by decide) (by decide), tn 44 (by decide) (by decide), tn 41 (by decide) (by decide), tn 40 (by decide) (by decide)]
    rfl
  · cases e : numL n with
    | nil => exact absurd e (numL_ne h)
    | cons b l => exact ⟨b, l, rfl, h1 b (by rw [e]; simp)⟩
/-- How a right value's text begins. -/
theorem Right.head {F : Nat} {t : PxT} {l : List UInt8} (h : Right F t l) : ∃ b m, l = b :: m ∧ b ≠ 41 ∧ b ≠ 58 ∧ b ≠ 32 ∧ (65 ≤ b.toNat ∧ b.toNat ≤ 90 → ∀ c ∈ l, stopB c = false) := by
  have ne : ∀ (x k : UInt8), x.toNat ≠ k.toNat → x ≠ k := fun x k h e => h (by rw [e])
  have par : ∀ m : List UInt8, ∃ b r, (40 :: m : List UInt8) = b :: r ∧ b ≠ 41 ∧ b ≠ 58 ∧ b ≠ 32 ∧ (65 ≤ b.toNat ∧ b.toNat ≤ 90 → ∀ c ∈ (40 :: m : List UInt8), stopB c = false) := fun m =>
    ⟨40, m, rfl, by decide, by decide, by decide, fun h => absurd h (by decide)⟩
  cases h with
  | int h =>
    obtain ⟨h1, b, l, e, h2⟩ := numL_word h
    exact ⟨b, l, e, ne _ _ (by show _ ≠ 41; omega), ne _ _ (by show _ ≠ 58; omega), ne _ _ (by show _ ≠ 32; omega), fun _ => h1⟩
  | str => exact ⟨34, _, quoteS_list _, by decide, by decide, by decide, fun h => absurd h (by decide)⟩
  | unit => exact par _
  | con0 h =>
    obtain ⟨h1, b, l, e, h2⟩ := con0_word h
    refine ⟨b, l, e, ?_, ?_, ?_, fun _ => h1⟩
    all_goals
      rcases h2 with h2 | rfl | rfl | rfl
      · exact ne _ _ (by first | (show _ ≠ 41; omega) | (show _ ≠ 58; omega) | (show _ ≠ 32; omega))
      · decide
      · decide
      · decide
  | pair => exact par _
  | cons => exact par _
  | con1 => exact par _

theorem upHead_iff {b : UInt8} {l : List UInt8} : upHead (b :: l) = true ↔ 65 ≤ b.toNat ∧ b.toNat ≤ 90 := by simp [upHead]
theorem not_isAt41 {l : List UInt8} {b : UInt8} {m : List UInt8} (e : l = b :: m) (h : b ≠ 41) : isAt [41] l = false := by
  rw [e, isAt_one]
  cases h' : ((41 : UInt8) == b) with
  | false => rfl
  | true => exact absurd (eq_of_beq h').symm h
theorem goodR_close (r : List UInt8) : GoodR (41 :: r) := goodR_cons (by decide)
theorem goodR_colons (r : List UInt8) : GoodR (kColons ++ r) := goodR_cons (by decide)
theorem goodR_comma (r : List UInt8) : GoodR (kComma ++ r) := goodR_cons (by decide)
/-- Behind the first part of a pair no argument of a constructor is read. -/
theorem no_arg {F : Nat} {t : PxT} {l : List UInt8} (h : Right F t l) {r : List UInt8} (hg : GoodR r) (hr : isAt [32] r = false ∨ isAt kColons r = true) : (upHead (l ++ r) && (isAt [32] (wRest (l ++ r)) && !isAt kColons (wRest (l ++ r)))) = false := by
  obtain ⟨b, m, e, h1, h2, h3, h4⟩ := h.head
  cases hu : upHead (l ++ r) with
  | false => rfl
  | true =>
    have hb : 65 ≤ b.toNat ∧ b.toNat ≤ 90 := by rw [e] at hu; exact upHead_iff.1 hu
    have hw := (span_word (h4 hb) hg).2
    rw [hw]
    rcases hr with hr | hr
    · rw [hr]; rfl
    · rw [hr]; simp

set_option maxHeartbeats 1000000 in
theorem readS_right {F : Nat} {t : PxT} {l : List UInt8} (h : Right F t l) : ∀ r : List UInt8, GoodR r → readS F (l ++ r) = some (t, r) := by
  induction h with
  | @int F n h =>
    intro r hr
    obtain ⟨h1, b, m, e, h2⟩ := numL_word h
    obtain ⟨s1, s2⟩ := span_word h1 hr
    have hr0 : readS (F + 1) (numL n ++ r) = match textNum (wOf (numL n ++ r)) with
        | some n' => some (tInt n', wRest (numL n ++ r))
        | none => some (tCon0 ⟨(wOf (numL n ++ r)).toArray⟩, wRest (numL n ++ r)) := by
      rw [e]
      show readS (F + 1) (b :: (m ++ r)) = _
      unfold readS
      dsimp only
      rw [if_neg (fun h => by rw [h] at h2; revert h2; decide), if_neg (fun h => by rw [h] at h2; revert h2; decide)]
      rfl
    rw [hr0, s1, s2, textNum_num h]
  | @str F s =>
    intro r hr
    rw [quoteS_list]
    show readS (F + 1) (34 :: ((s.data.toList.flatMap quoteB ++ [34]) ++ r)) = _
    unfold readS
    dsimp only
    rw [if_neg (by decide), if_pos rfl, List.append_assoc, List.singleton_append, scanQ_quote]
    dsimp only
    rw [← quoteS_list, unquote_quote]
  | @unit F =>
    intro r hr
    show readS (F + 1) (40 :: (41 :: r)) = _
    unfold readS
    dsimp only
    rw [if_pos rfl]
    unfold readIn
    rw [if_pos (by rw [isAt_one]; rfl)]
    rfl
  | @con0 F s h =>
    intro r hr
    obtain ⟨h1, b, m, e, h2⟩ := con0_word h
    obtain ⟨s1, s2⟩ := span_word h1 hr
    have hn : textNum s.data.toList = none := by
      rw [e]
      refine textNum_no ?_ ?_
      · rcases h2 with h2 | rfl | rfl | rfl
        · omega
        · decide
        · decide
        · decide
      · rcases h2 with h2 | rfl | rfl | rfl
        · omega
        · decide
        · decide
        · decide
    have hr0 : readS (F + 1) (s.data.toList ++ r) = match textNum (wOf (s.data.toList ++ r)) with
        | some n' => some (tInt n', wRest (s.data.toList ++ r))
        | none => some (tCon0 ⟨(wOf (s.data.toList ++ r)).toArray⟩, wRest (s.data.toList ++ r)) := by
      rw [e]
      show readS (F + 1) (b :: (m ++ r)) = _
      unfold readS
      dsimp only
      rw [if_neg (fun h => by rw [h] at h2; revert h2; decide), if_neg (fun h => by rw [h] at h2; revert h2; decide)]
      rfl
    rw [hr0, s1, s2, hn]
  | @pair F a b la lb ha hb ia ib =>
    intro r hr
    have e0 : (40 :: (la ++ kComma ++ lb ++ [41])) ++ r = 40 :: (la ++ (kComma ++ (lb ++ (41 :: r)))) := by simp
    rw [e0]
    unfold readS
    dsimp only
    rw [if_pos rfl]
    obtain ⟨c, m, e, h1, _⟩ := ha.head
    unfold readIn
    rw [if_neg (by rw [not_isAt41 (l := la ++ _) (b := c) (m := m ++ _) (by rw [e]; rfl) h1]; decide)]
    rw [if_neg (by rw [no_arg ha (goodR_comma _) (.inl rfl)]; decide)]
    rw [ia _ (goodR_comma _)]
    dsimp only
    rw [if_neg (show ¬ isAt kColons (kComma ++ (lb ++ 41 :: r)) = true from fun h => by cases h), if_pos (isAt_self _ _)]
    show (match readS F (lb ++ (41 :: r)) with | none => none | some (b, r2) => _) = _
    rw [ib _ (goodR_close r)]
    dsimp only
    rw [if_pos (by rw [isAt_one]; rfl)]
    rfl
  | @cons F a b la lb ha hb ia ib =>
    intro r hr
    have e0 : (40 :: (la ++ kColons ++ lb ++ [41])) ++ r = 40 :: (la ++ (kColons ++ (lb ++ (41 :: r)))) := by simp
    rw [e0]
    unfold readS
    dsimp only
    rw [if_pos rfl]
    obtain ⟨c, m, e, h1, _⟩ := ha.head
    unfold readIn
    rw [if_neg (by rw [not_isAt41 (l := la ++ _) (b := c) (m := m ++ _) (by rw [e]; rfl) h1]; decide)]
    rw [if_neg (by rw [no_arg ha (goodR_colons _) (.inr (isAt_self _ _))]; decide)]
    rw [ia _ (goodR_colons _)]
    dsimp only
    rw [if_pos (isAt_self _ _)]
    show (match readS F (lb ++ (41 :: r)) with | none => none | some (b, r2) => _) = _
    rw [ib _ (goodR_close r)]
    dsimp only
    rw [if_pos (by rw [isAt_one]; rfl)]
    rfl
  | @con1 F s a la h ha ia =>
    intro r hr
    have e0 : (40 :: (s.data.toList ++ [32] ++ la ++ [41])) ++ r = 40 :: (s.data.toList ++ (32 :: (la ++ (41 :: r)))) := by simp
    rw [e0]
    unfold readS
    dsimp only
    rw [if_pos rfl]
    obtain ⟨h1, b, m, e, h2, h3⟩ := conOk_word h
    obtain ⟨s1, s2⟩ := span_word (w := s.data.toList) (r := 32 :: (la ++ (41 :: r))) (fun c hc => wordB_stop (h1 c hc)) (goodR_cons (by decide))
    obtain ⟨c, m', e', h5, h6, h7, _⟩ := ha.head
    have hne : b ≠ 41 := fun h => by rw [h] at h2; revert h2; decide
    unfold readIn
    rw [if_neg (by rw [not_isAt41 (l := s.data.toList ++ _) (b := b) (m := m ++ _) (by rw [e]; rfl) hne]; decide)]
    rw [s1, s2]
    have hu : upHead (s.data.toList ++ (32 :: (la ++ (41 :: r)))) = true := by rw [e]; exact upHead_iff.2 ⟨h2, h3⟩
    have hc : isAt kColons (32 :: (la ++ (41 :: r))) = false := by
      rw [e']
      show isAt [32, 58, 58, 32] (32 :: c :: (m' ++ (41 :: r))) = false
      have h8 : ((58 : UInt8) == c) = false := by
        cases e8 : ((58 : UInt8) == c) with
        | false => rfl
        | true => exact absurd (eq_of_beq e8).symm h6
      simp [isAt, List.isPrefixOf, h8]
    rw [if_pos (by rw [hu, hc]; rfl)]
    show (match readS F (la ++ (41 :: r)) with | none => none | some (b, r2) => _) = _
    rw [ia _ (goodR_close r)]
    dsimp only
    rw [if_pos (by rw [isAt_one]; rfl)]
    rfl
theorem Right.inj {F G : Nat} {t u : PxT} {l : List UInt8} (h : Right F t l) (h' : Right G u l) : t = u := by
  have h1 := readS_right (h.mono (Nat.le_max_left F G)) [] goodR_nil
  have h2 := readS_right (h'.mono (Nat.le_max_right F G)) [] goodR_nil
  rw [h1] at h2
  injection h2 with h2
  injection h2

/-! ### A right value's nodes -/
theorem conShape_zero {s : ByteArray} {pb : Bool} (h : conShape s 0 pb = true) : con0 s := by
  unfold conShape at h
  split at h
  · rename_i h1
    simp only [Bool.or_eq_true, beq_iff_eq, ByteArray.toList_eq] at h1
    rcases h1 with (h1 | h1) | h1
    · exact .inl h1
    · exact .inr (.inl h1)
    · exact .inr (.inr (.inl h1))
  · split at h
    · simp at h
    · simp at h
      exact .inr (.inr (.inr h))
theorem conShape_one {s : ByteArray} {pb : Bool} (h : conShape s 1 pb = true) : ((s.toList == sCons) = true ∧ pb = true) ∨ ((s.toList == sCons) = false ∧ conOk s = true) := by
  unfold conShape at h
  split at h
  · simp at h
  · cases e : (s.toList == sCons) with
    | true => rw [e, if_pos rfl] at h; exact .inl ⟨rfl, by simpa using h⟩
    | false => rw [e, if_neg (by decide)] at h; exact .inr ⟨rfl, by simpa using h⟩

theorem isEmpty_eq {s : ByteArray} (h : s.toList.isEmpty = true) : s = ByteArray.empty := by
  rw [List.isEmpty_iff, ByteArray.toList_eq] at h
  exact ByteArray.ext (Array.ext' (by rw [h]; rfl))

theorem data_append (a b : ByteArray) : (a ++ b).data.toList = a.data.toList ++ b.data.toList := by rw [ByteArray.data_append, Array.toList_append]
set_option maxHeartbeats 1000000 in
theorem treeOf_right (l : List GDNode) (hU : Up l) (hok : ∀ (j : Nat) x, l[j]? = some x → nodeOk l x = true) : ∀ (f i : Nat), i < l.length → l.length ≤ i + f → Right f (treeOf l f i) (textT f (treeOf l f i)).data.toList := by
  intro f
  induction f using Nat.strongRecOn with
  | _ f ih =>
    intro i hi hf
    match f, ih, hf with
    | 0, _, hf => exact absurd hf (by omega)
    | f + 1, ih, hf =>
      obtain ⟨x, hx⟩ : ∃ x, l[i]? = some x := ⟨_, List.getElem?_eq_getElem hi⟩
      rw [treeOf_some hx]
      have hup := hU i x hx
      have hn := hok i x hx
      obtain ⟨kd, nn, s, ks⟩ := x
      rcases nodeOk_kind l kd nn s ks with ⟨e, h⟩ | ⟨e, h⟩ | ⟨e, h⟩ | ⟨e, h⟩ | ⟨e, h⟩ | ⟨_, _, _, _, _, h⟩
      all_goals rw [hn] at h; replace h := h.symm; (try simp only [Bool.and_eq_true, beq_iff_eq] at h)
      · obtain rfl : ks = [] := List.length_eq_zero_iff.1 (by omega)
        obtain rfl : s = ByteArray.empty := isEmpty_eq h.2.2
        obtain rfl : nn = 0 := h.2.1
        subst e
        show Right (f + 1) (PxT.mk 6 0 ByteArray.empty []) (textT (f + 1) (PxT.mk 6 0 ByteArray.empty [])).data.toList
        rw [textT_unit]
        exact .unit
      · obtain rfl : ks = [] := List.length_eq_zero_iff.1 (by omega)
        obtain rfl : nn = 0 := h.2
        subst e
        show Right (f + 1) (PxT.mk 2 0 s []) (textT (f + 1) (PxT.mk 2 0 s [])).data.toList
        rw [textT_str]
        exact .str
      · obtain rfl : ks = [] := List.length_eq_zero_iff.1 (by omega)
        obtain rfl : s = ByteArray.empty := isEmpty_eq h.2.1
        subst e
        show Right (f + 1) (PxT.mk 3 nn ByteArray.empty []) (textT (f + 1) (PxT.mk 3 nn ByteArray.empty [])).data.toList
        rw [textT_int]
        exact .int ((wrap63_eq nn).1 h.2.2)
      · obtain rfl : nn = 0 := h.1
        have hl := conShape_le h.2
        subst e
        match ks, hl with
        | [], _ =>
          have hc := conShape_zero h.2
          show Right (f + 1) (PxT.mk 4 0 s []) (textT (f + 1) (PxT.mk 4 0 s [])).data.toList
          rw [textT_nil]
          exact .con0 hc
        | [k], _ =>
          have hk := hup k (by simp)
          obtain ⟨q, rfl⟩ : ∃ q : Nat, k = q := ⟨k.toNat, by omega⟩
          rcases conShape_one h.2 with ⟨hs, hp⟩ | ⟨hs, hc⟩
          · obtain ⟨y, hy⟩ : ∃ y, l[q]? = some y := ⟨_, List.getElem?_eq_getElem (by omega)⟩
            have h5 : y.kind = 5 := by
              unfold pairOf kindAt at hp
              simp [hy] at hp
              exact hp
            match f, (show f ≠ 0 by omega), ih, hf with
            | f + 1, _, ih, hf =>
              have hn2 := hok q y hy
              have hup2 := hU q y hy
              obtain ⟨kd2, nn2, s2, ks2⟩ := y
              dsimp only at h5
              subst h5
              unfold nodeOk at hn2
              dsimp only at hn2
              rw [if_neg (by decide), if_neg (by decide), if_neg (by decide), if_pos rfl] at hn2
              simp only [Bool.and_eq_true, beq_iff_eq] at hn2
              obtain ⟨h6, rfl, h7⟩ := hn2
              obtain rfl : s2 = ByteArray.empty := isEmpty_eq h7
              obtain rfl : s = ⟨sCons.toArray⟩ := by
                have := eq_of_beq hs
                rw [ByteArray.toList_eq] at this
                exact ByteArray.ext (Array.ext' this)
              match ks2, h6, hup2 with
              | [p, q2], _, hup2 =>
                have hp1 := hup2 p (by simp)
                have hp2 := hup2 q2 (by simp)
                have e1 : treeOf l (f + 1) ((q : Int).toNat) = .mk 5 0 ByteArray.empty [treeOf l f p.toNat, treeOf l f q2.toNat] := by
                  rw [Int.toNat_natCast, treeOf_some hy]; rfl
                have r1 := ih f (by omega) p.toNat (by omega) (by omega)
                have r2 := ih f (by omega) q2.toNat (by omega) (by omega)
                show Right (f + 2) (PxT.mk 4 0 ⟨sCons.toArray⟩ [treeOf l (f + 1) ((q : Int).toNat)]) (textT (f + 2) (PxT.mk 4 0 ⟨sCons.toArray⟩ [treeOf l (f + 1) ((q : Int).toNat)])).data.toList
                rw [e1, textT_cons _ _ _ _ _ _ _ hs]
                have r := Right.cons r1 r2
                have el : (bParen ++ textT f (treeOf l f p.toNat) ++ bColons ++ textT f (treeOf l f q2.toNat) ++ bClose).data.toList = 40 :: ((textT f (treeOf l f p.toNat)).data.toList ++ kColons ++ (textT f (treeOf l f q2.toNat)).data.toList ++ [41]) := by
                  simp only [data_append]; rfl
                rw [el]
                exact r.succ
              | [], h6, _ => simp at h6
              | [_], h6, _ => simp at h6
              | _ :: _ :: _ :: _, h6, _ => simp at h6; omega
          · have r1 := ih f (by omega) q (by omega) (by omega)
            show Right (f + 1) (PxT.mk 4 0 s [treeOf l f ((q : Int).toNat)]) (textT (f + 1) (PxT.mk 4 0 s [treeOf l f ((q : Int).toNat)])).data.toList
            rw [Int.toNat_natCast, textT_con _ _ _ _ hs]
            have r := Right.con1 hc r1
            have el : (bParen ++ s ++ bSpace ++ textT f (treeOf l f q) ++ bClose).data.toList = 40 :: (s.data.toList ++ [32] ++ (textT f (treeOf l f q)).data.toList ++ [41]) := by
              simp only [data_append]; rfl
            rw [el]
            exact r
        | _ :: _ :: _, hl => simp at hl; omega
      · match ks, h.1 with
        | [a, b], _ =>
          have hp1 := hup a (by simp)
          have hp2 := hup b (by simp)
          obtain rfl : s = ByteArray.empty := isEmpty_eq h.2.2
          obtain rfl : nn = 0 := h.2.1
          subst e
          have r1 := ih f (by omega) a.toNat (by omega) (by omega)
          have r2 := ih f (by omega) b.toNat (by omega) (by omega)
          show Right (f + 1) (PxT.mk 5 0 ByteArray.empty [treeOf l f a.toNat, treeOf l f b.toNat]) (textT (f + 1) (PxT.mk 5 0 ByteArray.empty [treeOf l f a.toNat, treeOf l f b.toNat])).data.toList
          rw [textT_pair]
          have r := Right.pair r1 r2
          have el : (bParen ++ textT f (treeOf l f a.toNat) ++ bComma ++ textT f (treeOf l f b.toNat) ++ bClose).data.toList = 40 :: ((textT f (treeOf l f a.toNat)).data.toList ++ kComma ++ (textT f (treeOf l f b.toNat)).data.toList ++ [41]) := by
            simp only [data_append]; rfl
          rw [el]
          exact r
        | [], h => simp at h
        | [_], h => simp at h
        | _ :: _ :: _ :: _, h => simp at h; omega
      · cases h
theorem data_right {d : GData} (h : dataOk d = true) : Right d.nodes.length (treeOf d.nodes d.nodes.length 0) (dataText d).data.toList := by
  obtain ⟨hU, h0, hL⟩ := dataOk_up h
  unfold dataText
  rw [if_pos h]
  exact treeOf_right d.nodes hU (dataOk_nodes h) d.nodes.length 0 h0 (by omega)

end Go.Proofs.Ytpblhonnknmjjaa

/- Which of two values comes first: plain law; the reference's DataLess and the program's. -/
namespace Go.Proofs.Ytpblhonnknmjjaa
open Go.RowKit
set_option linter.unusedVariables false
set_option linter.unusedSimpArgs false
attribute [local go_sem] Ext.cell

def nodeCmp (x y : GDNode) : Option Bool :=
  if (x.kind != y.kind) = true then some (decide (x.kind < y.kind))
  else if (x.n != y.n) = true then some (decide (x.n < y.n))
  else if (!(x.s.toList == y.s.toList)) = true then some (Op.bytesLess x.s.toList y.s.toList)
  else if ((x.kids.length : Int) != (y.kids.length : Int)) = true then some (decide ((x.kids.length : Int) < (y.kids.length : Int)))
  else none
theorem nodeCmp_ways (x y : GDNode) :
    ((x.kind != y.kind) = true ∧ nodeCmp x y = some (decide (x.kind < y.kind))) ∨
    ((x.kind != y.kind) = false ∧ (x.n != y.n) = true ∧ nodeCmp x y = some (decide (x.n < y.n))) ∨
    ((x.kind != y.kind) = false ∧ (x.n != y.n) = false ∧ (x.s.toList == y.s.toList) = false ∧ nodeCmp x y = some (Op.bytesLess x.s.toList y.s.toList)) ∨
    ((x.kind != y.kind) = false ∧ (x.n != y.n) = false ∧ (x.s.toList == y.s.toList) = true ∧ ((x.kids.length : Int) != (y.kids.length : Int)) = true ∧ nodeCmp x y = some (decide ((x.kids.length : Int) < (y.kids.length : Int)))) ∨
    ((x.kind != y.kind) = false ∧ (x.n != y.n) = false ∧ (x.s.toList == y.s.toList) = true ∧ ((x.kids.length : Int) != (y.kids.length : Int)) = false ∧ nodeCmp x y = none) := by
  unfold nodeCmp
  cases h1 : (x.kind != y.kind)
  · cases h2 : (x.n != y.n)
    · cases h3 : (x.s.toList == y.s.toList)
      · exact .inr (.inr (.inl ⟨rfl, rfl, rfl, by simp⟩))
      · cases h4 : ((x.kids.length : Int) != (y.kids.length : Int))
        · exact .inr (.inr (.inr (.inr ⟨rfl, rfl, rfl, rfl, by simp⟩)))
        · exact .inr (.inr (.inr (.inl ⟨rfl, rfl, rfl, rfl, by simp⟩)))
    · exact .inr (.inl ⟨rfl, rfl, by simp⟩)
  · exact .inl ⟨rfl, by simp⟩
def lessL : List GDNode → List GDNode → Bool
  | x :: xs, y :: ys => match nodeCmp x y with
    | some b => b
    | none => lessL xs ys
  | _, _ => false
theorem lessL_drop {a b : List GDNode} {k : Nat} {x y : GDNode} (hx : a[k]? = some x) (hy : b[k]? = some y) : lessL (a.drop k) (b.drop k) = match nodeCmp x y with
    | some b => b
    | none => lessL (a.drop (k + 1)) (b.drop (k + 1)) := by
  obtain ⟨h1, e1⟩ := List.getElem?_eq_some_iff.1 hx
  obtain ⟨h2, e2⟩ := List.getElem?_eq_some_iff.1 hy
  rw [List.drop_eq_getElem_cons h1, List.drop_eq_getElem_cons h2, e1, e2]
  rfl
theorem lessL_out {a b : List GDNode} {k : Nat} (h : a.length ≤ k ∨ b.length ≤ k) : lessL (a.drop k) (b.drop k) = false := by
  rcases h with h | h
  · rw [List.drop_of_length_le h]; unfold lessL; rfl
  · rw [List.drop_of_length_le h]; unfold lessL; cases a.drop k <;> rfl
def dataLess (a b : GData) : Bool := dataOk a && (dataOk b && lessL a.nodes b.nodes)

set_option maxRecDepth 100000 in
set_option maxHeartbeats 8000000 in
theorem spec_DataLess_c (a : GData) (ra : List Value) (la : Nat) (b : GData) (rb : List Value) (lb : Nat) (hba : a.bulk ≤ 1048576) (hbb : b.bulk ≤ 1048576) (w : World) (hra : GData.R la w ra a) (hrb : GData.R lb w rb b) :
    Calls Try.prog 8 #[.agg ra.toArray, .agg rb.toArray] w fun e w' => e = .returned (.bool (dataLess a b)) ∧ Below w.heap.size w w' := by
  have hda : a.nodes.length ≤ 1152921504606846976 := by have := length_le_bulkS GDNode.bulk_nonneg a.nodes; unfold GData.bulk at hba; omega
  have hdb : b.nodes.length ≤ 1152921504606846976 := by have := length_le_bulkS GDNode.bulk_nonneg b.nodes; unfold GData.bulk at hbb; omega
  have c1 := fun W (hW : Below w.heap.size w W) => specDataOk_c a hda ra la W (GData.good.below hra hW)
  have c2 := fun W (hW : Below w.heap.size w W) => specDataOk_c b hdb rb lb W (GData.good.below hrb hW)
  obtain ⟨u, rfl, -, hu⟩ := hra
  obtain ⟨aa, ac, rfl, al, am, a0⟩ := hu
  obtain ⟨u, rfl, -, hu⟩ := hrb
  obtain ⟨ba, bc, rfl, bl, bm, b0⟩ := hu
  obtain ⟨n, hn⟩ : ∃ n, n = a.nodes.length := ⟨_, rfl⟩
  obtain ⟨m, hm⟩ : ∃ m, m = b.nodes.length := ⟨_, rfl⟩
  rw [← hn] at al hda c1 ⊢
  rw [← hm] at bl hdb c2 ⊢
  replace hn := Lib.hid hn; replace hm := Lib.hid hm
  replace a0 := Lib.hid a0; replace b0 := Lib.hid b0; replace c1 := Lib.hid c1; replace c2 := Lib.hid c2
  clear hba hbb
  cases hoa : dataOk a with
  | false =>
    rw [hoa] at c1
    have hfin : Hid (dataLess a b = false) := by show _ = _; unfold dataLess; rw [hoa]; rfl
    clear hoa
    go_enter Try.func8, Try.ntmps8
    go_upto_region 1 with fail
    have A : RowAt (w.alloc (.cells #[.slice aa n ac] 25)) (w.heap.size) 0 [.slice aa n ac] := RowAt.box w #[.slice aa n ac] 25
    have A := A.below (show Below (w.alloc (.cells #[.slice aa n ac] 25)).heap.size (w.alloc (.cells #[.slice aa n ac] 25)) ((w.alloc (.cells #[.slice aa n ac] 25)).alloc (.cells #[.slice ba m bc] 25)) by go_grown)
    have B : RowAt ((w.alloc (.cells #[.slice aa n ac] 25)).alloc (.cells #[.slice ba m bc] 25)) (w.heap.size + 1) 0 [.slice ba m bc] := by have h := RowAt.box (w.alloc (.cells #[.slice aa n ac] 25)) #[.slice ba m bc] 25; simp only [World.size_alloc] at h; exact h
    have hw : Below w.heap.size w ((w.alloc (.cells #[.slice aa n ac] 25)).alloc (.cells #[.slice ba m bc] 25)) := by go_grown
    generalize ((w.alloc (.cells #[.slice aa n ac] 25)).alloc (.cells #[.slice ba m bc] 25)) = w0 at *
    have a_0 := A.box1; have hsA := World.block_lt_of_cell? _ _ a_0; dsimp only at hsA; have b_0 := B.box1; have hsB := World.block_lt_of_cell? _ _ b_0; dsimp only at hsB
    go_wp2_with (go_at_call 9; ((with_reducible refine (c1.out _ hw).mono ?_); rintro e w1 ⟨rfl, hb⟩; have hw := hw.trans (hb.mono hw.size); have A := A.below hb; have a_0 := A.box1; have hsA := World.block_lt_of_cell? _ _ a_0; dsimp only at hsA; have B := B.below hb; have b_0 := B.box1; have hsB := World.block_lt_of_cell? _ _ b_0; dsimp only at hsB; clear hb))
    go_returns
    exact ⟨by rw [hfin.out]; rfl, hw⟩
  | true =>
    rw [hoa] at c1
    cases hob : dataOk b with
    | false =>
      rw [hob] at c2
      have hfin : Hid (dataLess a b = false) := by show _ = _; unfold dataLess; rw [hoa, hob]; rfl
      clear hoa hob
      go_enter Try.func8, Try.ntmps8
      go_upto_region 1 with fail
      have A : RowAt (w.alloc (.cells #[.slice aa n ac] 25)) (w.heap.size) 0 [.slice aa n ac] := RowAt.box w #[.slice aa n ac] 25
      have A := A.below (show Below (w.alloc (.cells #[.slice aa n ac] 25)).heap.size (w.alloc (.cells #[.slice aa n ac] 25)) ((w.alloc (.cells #[.slice aa n ac] 25)).alloc (.cells #[.slice ba m bc] 25)) by go_grown)
      have B : RowAt ((w.alloc (.cells #[.slice aa n ac] 25)).alloc (.cells #[.slice ba m bc] 25)) (w.heap.size + 1) 0 [.slice ba m bc] := by have h := RowAt.box (w.alloc (.cells #[.slice aa n ac] 25)) #[.slice ba m bc] 25; simp only [World.size_alloc] at h; exact h
      have hw : Below w.heap.size w ((w.alloc (.cells #[.slice aa n ac] 25)).alloc (.cells #[.slice ba m bc] 25)) := by go_grown
      generalize ((w.alloc (.cells #[.slice aa n ac] 25)).alloc (.cells #[.slice ba m bc] 25)) = w0 at *
      have a_0 := A.box1; have hsA := World.block_lt_of_cell? _ _ a_0; dsimp only at hsA; have b_0 := B.box1; have hsB := World.block_lt_of_cell? _ _ b_0; dsimp only at hsB
      go_wp2_with (first | (go_at_call 9; ((with_reducible refine (c1.out _ hw).mono ?_); rintro e w1 ⟨rfl, hb⟩; have hw := hw.trans (hb.mono hw.size); have A := A.below hb; have a_0 := A.box1; have hsA := World.block_lt_of_cell? _ _ a_0; dsimp only at hsA; have B := B.below hb; have b_0 := B.box1; have hsB := World.block_lt_of_cell? _ _ b_0; dsimp only at hsB; clear hb)) | (go_at_call 9; ((with_reducible refine (c2.out _ hw).mono ?_); rintro e w1 ⟨rfl, hb⟩; have hw := hw.trans (hb.mono hw.size); have A := A.below hb; have a_0 := A.box1; have hsA := World.block_lt_of_cell? _ _ a_0; dsimp only at hsA; have B := B.below hb; have b_0 := B.box1; have hsB := World.block_lt_of_cell? _ _ b_0; dsimp only at hsB; clear hb)))
      go_returns
      exact ⟨by rw [hfin.out]; rfl, hw⟩
    | true =>
      rw [hob] at c2
      have hfin : Hid (dataLess a b = lessL a.nodes b.nodes) := by show _ = _; unfold dataLess; rw [hoa, hob]; rfl
      clear hoa hob
      go_enter Try.func8, Try.ntmps8
      go_upto_region 1 with fail
      have A : RowAt (w.alloc (.cells #[.slice aa n ac] 25)) (w.heap.size) 0 [.slice aa n ac] := RowAt.box w #[.slice aa n ac] 25
      have A := A.below (show Below (w.alloc (.cells #[.slice aa n ac] 25)).heap.size (w.alloc (.cells #[.slice aa n ac] 25)) ((w.alloc (.cells #[.slice aa n ac] 25)).alloc (.cells #[.slice ba m bc] 25)) by go_grown)
      have B : RowAt ((w.alloc (.cells #[.slice aa n ac] 25)).alloc (.cells #[.slice ba m bc] 25)) (w.heap.size + 1) 0 [.slice ba m bc] := by have h := RowAt.box (w.alloc (.cells #[.slice aa n ac] 25)) #[.slice ba m bc] 25; simp only [World.size_alloc] at h; exact h
      have hw : Below w.heap.size w ((w.alloc (.cells #[.slice aa n ac] 25)).alloc (.cells #[.slice ba m bc] 25)) := by go_grown
      generalize ((w.alloc (.cells #[.slice aa n ac] 25)).alloc (.cells #[.slice ba m bc] 25)) = w0 at *
      have a_0 := A.box1; have hsA := World.block_lt_of_cell? _ _ a_0; dsimp only at hsA; have b_0 := B.box1; have hsB := World.block_lt_of_cell? _ _ b_0; dsimp only at hsB
      go_wp2_with (first | (go_at_call 9; ((with_reducible refine (c1.out _ hw).mono ?_); rintro e w1 ⟨rfl, hb⟩; have hw := hw.trans (hb.mono hw.size); have A := A.below hb; have a_0 := A.box1; have hsA := World.block_lt_of_cell? _ _ a_0; dsimp only at hsA; have B := B.below hb; have b_0 := B.box1; have hsB := World.block_lt_of_cell? _ _ b_0; dsimp only at hsB; clear hb)) | (go_at_call 9; ((with_reducible refine (c2.out _ hw).mono ?_); rintro e w1 ⟨rfl, hb⟩; have hw := hw.trans (hb.mono hw.size); have A := A.below hb; have a_0 := A.box1; have hsA := World.block_lt_of_cell? _ _ a_0; dsimp only at hsA; have B := B.below hb; have b_0 := B.box1; have hsB := World.block_lt_of_cell? _ _ b_0; dsimp only at hsB; clear hb)))
      go_loopw [5] (fun i wr => ∃ k : Nat, k ≤ n ∧ k ≤ m ∧ i = .int .i64 k ∧ Below w.heap.size w wr ∧ RowAt wr w.heap.size 0 [.slice aa n ac] ∧ RowAt wr (w.heap.size + 1) 0 [.slice ba m bc] ∧ Hid (lessL a.nodes b.nodes = lessL (a.nodes.drop k) (b.nodes.drop k))) (fun i _ => n - (intOf i).toNat)
      case atStart => exact ⟨0, by omega, by omega, rfl, hw, A, B, rfl⟩
      case round =>
        clear hw A B a_0 b_0 hsA hsB
        obtain ⟨k, hk, hkm, rfl, hw, A, B, hF⟩ := hrel
        have a_0 := A.box1; have hsA := World.block_lt_of_cell? _ _ a_0; dsimp only at hsA; have b_0 := B.box1; have hsB := World.block_lt_of_cell? _ _ b_0; dsimp only at hsB
        by_cases hlt : k < n
        · by_cases hlt2 : k < m
          · obtain ⟨ab, ao, x, s1, _, rfl, P1, hx, r1⟩ := (a0.out.below GDNode.good hw).get hn hlt
            obtain ⟨bb, bo, y, s2, _, rfl, P2, hy, r2⟩ := (b0.out.below GDNode.good hw).get hm hlt2
            have hst := lessL_drop P1.out P2.out
            have hC := nodeCmp_ways x y
            obtain ⟨xu, rfl, -, hxk⟩ := hx
            obtain ⟨yu, rfl, -, hyk⟩ := hy
            obtain ⟨xa, xc, rfl⟩ := hxk.form
            obtain ⟨ya, yc, rfl⟩ := hyk.form
            clear hxk hyk P1 P2
            obtain ⟨e_0, e_1, e_2, e_3⟩ := r1.cells4
            obtain ⟨f_0, f_1, f_2, f_3⟩ := r2.cells4
            have hb1 := World.block_lt_of_cell? _ _ e_0
            have hb2 := World.block_lt_of_cell? _ _ f_0
            dsimp only at hb1 hb2
            clear r1 r2
            generalize x.kind = xk at *
            generalize y.kind = yk at *
            generalize x.n = xn at *
            generalize y.n = yn at *
            generalize x.s = xs at *
            generalize y.s = ys at *
            generalize x.kids.length = xl at *
            generalize y.kids.length = yl at *
            generalize hnc : nodeCmp x y = nc at *
            clear hnc
            rcases hC with ⟨h1, rfl⟩ | ⟨h1, h2, rfl⟩ | ⟨h1, h2, h3, rfl⟩ | ⟨h1, h2, h3, h4, rfl⟩ | ⟨h1, h2, h3, h4, rfl⟩
            all_goals replace hst := Lib.hid hst
            all_goals go_wp2_with fail
            all_goals first
              | (go_returns
                 refine ⟨?_, by go_grown⟩
                 rw [hfin.out, hF.out, hst.out]
                 first | rfl | (simp; done))
              | (go_roundw
                 case rel => exact ⟨k + 1, by omega, by omega, by go_num, by go_grown, A.below (by go_grown), B.below (by go_grown), hF.out.trans hst.out⟩
                 case measure => simp [intOf]; omega)
          · obtain rfl : m = k := by omega
            have hend : lessL (a.nodes.drop m) (b.nodes.drop m) = false := lessL_out (.inr (by have := hm.out; omega))
            replace hend := Lib.hid hend
            go_wp2_with fail
            go_returns
            exact ⟨by rw [hfin.out, hF.out, hend.out]; rfl, hw⟩
        · obtain rfl : n = k := by omega
          have hend : lessL (a.nodes.drop n) (b.nodes.drop n) = false := lessL_out (.inl (by have := hn.out; omega))
          replace hend := Lib.hid hend
          go_wp2_with fail
          go_returns
          exact ⟨by rw [hfin.out, hF.out, hend.out]; rfl, hw⟩

end Go.Proofs.Ytpblhonnknmjjaa

/- Of two right values whose nodes differ just one comes first: the order of node lists, in plain Lean. -/
namespace Go.Proofs.Ytpblhonnknmjjaa
open Go.RowKit
set_option linter.unusedVariables false
set_option linter.unusedSimpArgs false

theorem bytesLess_flip : ∀ (a b : List UInt8), a ≠ b → Op.bytesLess b a = !Op.bytesLess a b := by
  intro a
  induction a with
  | nil =>
    intro b h
    cases b with
    | nil => exact absurd rfl h
    | cons y b => rfl
  | cons x a ih =>
    intro b h
    cases b with
    | nil => rfl
    | cons y b =>
      unfold Op.bytesLess
      by_cases e : x = y
      · subst e
        have : a ≠ b := fun e => h (by rw [e])
        have := ih b this
        simpa using this
      · have e' : ¬ y = x := fun h => e h.symm
        have h1 : x < y ∨ y < x := by
          rcases Nat.lt_trichotomy x.toNat y.toNat with h | h | h
          · exact .inl (UInt8.lt_iff_toNat_lt.2 h)
          · exact absurd (UInt8.toNat_inj.1 h) e
          · exact .inr (UInt8.lt_iff_toNat_lt.2 h)
        rcases h1 with h1 | h1
        · have h2 : ¬ y < x := fun h => by have := UInt8.lt_iff_toNat_lt.1 h; have := UInt8.lt_iff_toNat_lt.1 h1; omega
          simp [e, e', h1, h2]
        · have h2 : ¬ x < y := fun h => by have := UInt8.lt_iff_toNat_lt.1 h; have := UInt8.lt_iff_toNat_lt.1 h1; omega
          simp [e, e', h1, h2]
theorem nodeCmp_flip (x y : GDNode) : nodeCmp y x = (nodeCmp x y).map (fun b => !b) := by
  unfold nodeCmp
  by_cases h1 : x.kind = y.kind
  · by_cases h2 : x.n = y.n
    · by_cases h3 : x.s.toList = y.s.toList
      · by_cases h4 : x.kids.length = y.kids.length
        · simp [h1, h2, h3, h4]
        · have h4' : ¬ y.kids.length = x.kids.length := fun h => h4 h.symm
          have e : (y.kids.length < x.kids.length) = ¬ (x.kids.length < y.kids.length) := by simp; omega
          simp only [h1, h2, h3, bne_iff_ne, ne_eq, not_true_eq_false, if_false, beq_self_eq_true, Bool.not_true, Bool.false_eq_true, Int.ofNat_inj, h4, h4', not_false_eq_true, if_true, Option.map_some, Int.ofNat_lt]
          simp only [e, decide_not]
      · have h3' : ¬ y.s.toList = x.s.toList := fun h => h3 h.symm
        simp [h1, h2, h3, h3', bytesLess_flip _ _ h3]
    · have h2' : ¬ y.n = x.n := fun h => h2 h.symm
      have e : (y.n < x.n) = ¬ (x.n < y.n) := by simp; omega
      simp only [h1, bne_iff_ne, ne_eq, not_true_eq_false, if_false, h2, h2', not_false_eq_true, if_true, Option.map_some, e, decide_not]
  · have h1' : ¬ y.kind = x.kind := fun h => h1 h.symm
    have e : (y.kind < x.kind) = ¬ (x.kind < y.kind) := by simp; omega
    simp only [bne_iff_ne, ne_eq, h1, h1', not_false_eq_true, if_true, Option.map_some, e, decide_not]
/-- The lists are alike as far as both go. -/
def Alike : List GDNode → List GDNode → Prop
  | x :: xs, y :: ys => nodeCmp x y = none ∧ Alike xs ys
  | _, _ => True
theorem lessL_ways : ∀ (a b : List GDNode), (Alike a b ∧ lessL a b = false ∧ lessL b a = false) ∨ (¬ Alike a b ∧ lessL b a = !lessL a b) := by
  intro a
  induction a with
  | nil => intro b; left; refine ⟨trivial, rfl, ?_⟩; cases b <;> rfl
  | cons x a ih =>
    intro b
    cases b with
    | nil => exact .inl ⟨trivial, rfl, rfl⟩
    | cons y b =>
      have hf := nodeCmp_flip x y
      unfold lessL Alike
      cases hc : nodeCmp x y with
      | none =>
        rw [hc] at hf
        simp only [Option.map_none] at hf
        rw [hf]
        rcases ih b with ⟨h1, h2, h3⟩ | ⟨h1, h2⟩
        · exact .inl ⟨⟨rfl, h1⟩, h2, h3⟩
        · exact .inr ⟨fun h => h1 h.2, h2⟩
      | some d =>
        rw [hc] at hf
        simp only [Option.map_some] at hf
        rw [hf]
        exact .inr ⟨fun h => (by cases h.1), rfl⟩
end Go.Proofs.Ytpblhonnknmjjaa
