/- The text of a value: plain law. -/
import Derived.Test.YtpblhonnknmjjaaTree
import Derived.Test.YtpblhonnknmjjaaQuote2
namespace Go.Proofs.Ytpblhonnknmjjaa
open Go.RowKit
set_option linter.unusedVariables false
set_option linter.unusedSimpArgs false

def PxT.kid (t : PxT) (i : Nat) : PxT := t.kids.getD i (.mk 0 0 ByteArray.empty [])
def bParen : ByteArray := ⟨#[40]⟩
def bClose : ByteArray := ⟨#[41]⟩
def bUnit : ByteArray := ⟨#[40, 41]⟩
def bComma : ByteArray := ⟨#[44, 32]⟩
def bColons : ByteArray := ⟨#[32, 58, 58, 32]⟩
def bSpace : ByteArray := ⟨#[32]⟩
def textT (f : Nat) (t : PxT) : ByteArray :=
  match f with
  | 0 => ByteArray.empty
  | f + 1 =>
    if t.kind = 3 then numText t.n
    else if t.kind = 2 then quoteS t.s
    else if t.kind = 6 then bUnit
    else if t.kind = 5 then bParen ++ textT f (t.kid 0) ++ bComma ++ textT f (t.kid 1) ++ bClose
    else if t.kids.length = 0 then t.s
    else if (t.s.toList == sCons) = true then bParen ++ textT (f - 1) ((t.kid 0).kid 0) ++ bColons ++ textT (f - 1) ((t.kid 0).kid 1) ++ bClose
    else bParen ++ t.s ++ bSpace ++ textT f (t.kid 0) ++ bClose
termination_by f

theorem textT_int (f : Nat) (n : Int) (s : ByteArray) (ks : List PxT) : textT (f + 1) (.mk 3 n s ks) = numText n := by rw [textT]; exact if_pos rfl
theorem textT_str (f : Nat) (n : Int) (s : ByteArray) (ks : List PxT) : textT (f + 1) (.mk 2 n s ks) = quoteS s := by rw [textT, if_neg (show ¬ (PxT.mk 2 n s ks).kind = 3 from (by decide : ¬ (2 : Int) = 3))]; exact if_pos rfl
theorem textT_unit (f : Nat) (n : Int) (s : ByteArray) (ks : List PxT) : textT (f + 1) (.mk 6 n s ks) = bUnit := by rw [textT, if_neg (show ¬ (PxT.mk 6 n s ks).kind = 3 from (by decide : ¬ (6 : Int) = 3)), if_neg (show ¬ (PxT.mk 6 n s ks).kind = 2 from (by decide : ¬ (6 : Int) = 2))]; exact if_pos rfl
theorem textT_pair (f : Nat) (n : Int) (s : ByteArray) (x y : PxT) : textT (f + 1) (.mk 5 n s [x, y]) = bParen ++ textT f x ++ bComma ++ textT f y ++ bClose := by rw [textT, if_neg (show ¬ (PxT.mk 5 n s [x, y]).kind = 3 from (by decide : ¬ (5 : Int) = 3)), if_neg (show ¬ (PxT.mk 5 n s [x, y]).kind = 2 from (by decide : ¬ (5 : Int) = 2)), if_neg (show ¬ (PxT.mk 5 n s [x, y]).kind = 6 from (by decide : ¬ (5 : Int) = 6))]; exact if_pos rfl
theorem textT_nil (f : Nat) (n : Int) (s : ByteArray) : textT (f + 1) (.mk 4 n s []) = s := by rw [textT, if_neg (show ¬ (PxT.mk 4 n s []).kind = 3 from (by decide : ¬ (4 : Int) = 3)), if_neg (show ¬ (PxT.mk 4 n s []).kind = 2 from (by decide : ¬ (4 : Int) = 2)), if_neg (show ¬ (PxT.mk 4 n s []).kind = 6 from (by decide : ¬ (4 : Int) = 6)), if_neg (show ¬ (PxT.mk 4 n s []).kind = 5 from (by decide : ¬ (4 : Int) = 5))]; exact if_pos rfl
theorem textT_cons (f : Nat) (n n5 : Int) (s s5 : ByteArray) (x y : PxT) (hs : (s.toList == sCons) = true) : textT (f + 2) (.mk 4 n s [.mk 5 n5 s5 [x, y]]) = bParen ++ textT f x ++ bColons ++ textT f y ++ bClose := by rw [textT, if_neg (show ¬ (PxT.mk 4 n s [.mk 5 n5 s5 [x, y]]).kind = 3 from (by decide : ¬ (4 : Int) = 3)), if_neg (show ¬ (PxT.mk 4 n s [.mk 5 n5 s5 [x, y]]).kind = 2 from (by decide : ¬ (4 : Int) = 2)), if_neg (show ¬ (PxT.mk 4 n s [.mk 5 n5 s5 [x, y]]).kind = 6 from (by decide : ¬ (4 : Int) = 6)), if_neg (show ¬ (PxT.mk 4 n s [.mk 5 n5 s5 [x, y]]).kind = 5 from (by decide : ¬ (4 : Int) = 5)), if_neg (show ¬ (PxT.mk 4 n s [.mk 5 n5 s5 [x, y]]).kids.length = 0 from (by decide : ¬ (1 : Nat) = 0))]; exact if_pos hs
theorem textT_con (f : Nat) (n : Int) (s : ByteArray) (x : PxT) (hs : (s.toList == sCons) = false) : textT (f + 1) (.mk 4 n s [x]) = bParen ++ s ++ bSpace ++ textT f x ++ bClose := by rw [textT, if_neg (show ¬ (PxT.mk 4 n s [x]).kind = 3 from (by decide : ¬ (4 : Int) = 3)), if_neg (show ¬ (PxT.mk 4 n s [x]).kind = 2 from (by decide : ¬ (4 : Int) = 2)), if_neg (show ¬ (PxT.mk 4 n s [x]).kind = 6 from (by decide : ¬ (4 : Int) = 6)), if_neg (show ¬ (PxT.mk 4 n s [x]).kind = 5 from (by decide : ¬ (4 : Int) = 5)), if_neg (show ¬ (PxT.mk 4 n s [x]).kids.length = 0 from (by decide : ¬ (1 : Nat) = 0))]; exact if_neg (show ¬ (s.toList == sCons) = true by rw [hs]; decide)

/-- A tree whose nodes have as many children as their kinds want. -/
def TOk : Nat → PxT → Prop
  | 0, _ => False
  | f + 1, t => t.wf ∧ ((t.kind = 3 ∧ t.kids = []) ∨ (t.kind = 2 ∧ t.kids = []) ∨ (t.kind = 6 ∧ t.kids = []) ∨ (t.kind = 5 ∧ ∃ a b, t.kids = [a, b]) ∨ (t.kind = 4 ∧ (t.kids = [] ∨ ∃ a, t.kids = [a] ∧ ((t.s.toList == sCons) = true → a.kind = 5)))) ∧ ∀ k ∈ t.kids, TOk f k

/-- How long a text may be. -/
def wt : Nat → PxT → Nat
  | 0, _ => 0
  | f + 1, t => 4 * t.s.size + 30 + (t.kids.map (wt f)).sum

theorem numText_len (n : Int) : (numText n).size ≤ 20 := by
  unfold numText
  split
  · rename_i h
    have := numS_len n.natAbs (by omega)
    split
    · rw [ByteArray.size_append]
      show 1 + (numS n.natAbs).size ≤ 20
      omega
    · omega
  · exact Nat.zero_le _
theorem quoteS_len (s : ByteArray) : (quoteS s).size ≤ 4 * s.size + 2 := by
  have := quoteL_len s.data.toList
  show (quoteL s.data.toList ++ [34]).toArray.size ≤ _
  have e : s.data.toList.length = s.size := rfl
  simp
  omega
theorem textT_len : ∀ (f : Nat) (t : PxT), TOk f t → (textT f t).size ≤ wt f t := by
  intro f
  induction f using Nat.strongRecOn with
  | _ f ih =>
    intro t ht
    match f, ht with
    | f + 1, ⟨hwf, hk, hkids⟩ =>
      rw [textT]
      unfold wt
      rcases hk with ⟨e, _⟩ | ⟨e, _⟩ | ⟨e, _⟩ | ⟨e, a, b, hab⟩ | ⟨e, hk⟩
      · rw [if_pos e]; have := numText_len t.n; omega
      · rw [if_neg (by omega), if_pos e]; have := quoteS_len t.s; omega
      · rw [if_neg (by omega), if_neg (by omega), if_pos e]; show 2 ≤ _; omega
      · rw [if_neg (by omega), if_neg (by omega), if_neg (by omega), if_pos e]
        have h1 := ih f (by omega) a (hkids a (by rw [hab]; simp))
        have h2 := ih f (by omega) b (hkids b (by rw [hab]; simp))
        simp only [ByteArray.size_append, PxT.kid, hab]
        show 1 + (textT f a).size + 2 + (textT f b).size + 1 ≤ _
        simp
        omega
      · rw [if_neg (by omega), if_neg (by omega), if_neg (by omega), if_neg (by omega)]
        rcases hk with hk | ⟨a, ha, hc⟩
        · rw [if_pos (by rw [hk]; rfl)]; omega
        · rw [if_neg (by rw [ha]; simp)]
          have hta := hkids a (by rw [ha]; simp)
          by_cases hs : (t.s.toList == sCons) = true
          · rw [if_pos hs]
            match f, hta with
            | f + 1, ⟨_, hka, hkk⟩ =>
              have e5 := hc hs
              obtain ⟨g0, g1, hg⟩ : ∃ g0 g1, a.kids = [g0, g1] := by
                rcases hka with ⟨e, _⟩ | ⟨e, _⟩ | ⟨e, _⟩ | ⟨e, h⟩ | ⟨e, _⟩
                · omega
                · omega
                · omega
                · exact h
                · omega
              have h1 := ih f (by omega) g0 (hkk g0 (by rw [hg]; simp))
              have h2 := ih f (by omega) g1 (hkk g1 (by rw [hg]; simp))
              simp only [ByteArray.size_append, PxT.kid, ha]
              show 1 + (textT f ((a.kids).getD 0 _)).size + 4 + (textT f ((a.kids).getD 1 _)).size + 1 ≤ _
              rw [hg]
              simp [wt, hg]
              omega
          · rw [if_neg hs]
            have h1 := ih f (by omega) a hta
            simp only [ByteArray.size_append, PxT.kid, ha]
            show 1 + t.s.size + 1 + (textT f a).size + 1 ≤ _
            simp
            omega

end Go.Proofs.Ytpblhonnknmjjaa
