/- The text of a value: the program's dataText. -/
import Derived.Test.YtpblhonnknmjjaaText
import Derived.Deep.RegionHeld3
namespace Go.Proofs.Ytpblhonnknmjjaa
open Go.RowKit
set_option linter.unusedVariables false
set_option linter.unusedSimpArgs false
attribute [local go_sem] Ext.cell

/-- What the function owes at trees of at most f levels. -/
def TextAt (f : Nat) : Prop := ∀ (S : Nat → Prop) (v : Value) (t : PxT) (w : World), PxR f S w v t → TOk f t → wt f t ≤ 1073741824 → Calls Try.prog 26 #[v] w fun e w' => e = .returned (.string (textT f t)) ∧ Below w.heap.size w w'

set_option maxRecDepth 100000 in
set_option maxHeartbeats 4000000 in
theorem text_leaf (f : Nat) (b : Nat) (kd n : Int) (s : ByteArray) (u : Value) (w : World) (hr : RowAt w b 0 [.int .i64 kd, .int .i64 n, .string s, u]) (hn : I64 n) (hs : s.size ≤ 1073741824) (r : ByteArray)
    (hk : (kd = 3 ∧ r = numText n) ∨ (kd = 2 ∧ r = quoteS s) ∨ (kd = 6 ∧ r = bUnit) ∨ (kd = 4 ∧ (∃ a c, u = .slice a 0 c) ∧ r = s)) :
    Calls Try.prog 26 #[.pointer (some ⟨b, 0, none⟩)] w fun e w' => e = .returned (.string r) ∧ Below w.heap.size w w' := by
  obtain ⟨e0, e1, e2, e3⟩ := hr.box4
  clear hr
  rcases hk with ⟨rfl, rfl⟩ | ⟨rfl, rfl⟩ | ⟨rfl, rfl⟩ | ⟨rfl, ⟨a, c, rfl⟩, rfl⟩
  · have c1 := fun W => impl_NumText_c n hn W
    generalize numText n = t at *
    go_enter Try.func26, Try.ntmps26
    go_wp2_with (go_at_call 48; ((with_reducible refine (c1 _).mono ?_); rintro e w1 ⟨rfl, hb⟩))
    go_returns
    exact ⟨rfl, hb⟩
  · have c1 := fun W => impl_Quote_c s (by omega) W
    generalize quoteS s = t at *
    go_enter Try.func26, Try.ntmps26
    go_wp2_with (go_at_call 49; ((with_reducible refine (c1 _).mono ?_); rintro e w1 ⟨rfl, hb⟩))
    go_returns
    exact ⟨rfl, hb⟩
  · go_enter Try.func26, Try.ntmps26
    go_wp2_with fail
    go_returns
    exact ⟨rfl, Below.refl _ _⟩
  · go_enter Try.func26, Try.ntmps26
    go_wp2_with fail
    go_returns
    exact ⟨rfl, Below.refl _ _⟩

set_option maxRecDepth 100000 in
set_option maxHeartbeats 4000000 in
theorem text_pair (b g off b0 b1 cap : Nat) (n : Int) (s A B : ByteArray) (w : World) (hr : RowAt w b 0 [.int .i64 5, .int .i64 n, .string s, .slice (some ⟨g, off, none⟩) 2 cap]) (hcap : 2 ≤ cap) (hcm : cap ≤ 9223372036854775807)
    (p0 : w.cell? ⟨g, off, none⟩ = some (.pointer (some ⟨b0, 0, none⟩))) (p1 : w.cell? ⟨g, off + 1, none⟩ = some (.pointer (some ⟨b1, 0, none⟩))) (hA : A.size ≤ 1073741824) (hB : B.size ≤ 1073741824)
    (cA : ∀ W, Below w.heap.size w W → Calls Try.prog 26 #[.pointer (some ⟨b0, 0, none⟩)] W fun e w' => e = .returned (.string A) ∧ Below W.heap.size W w')
    (cB : ∀ W, Below w.heap.size w W → Calls Try.prog 26 #[.pointer (some ⟨b1, 0, none⟩)] W fun e w' => e = .returned (.string B) ∧ Below W.heap.size W w') :
    Calls Try.prog 26 #[.pointer (some ⟨b, 0, none⟩)] w fun e w' => e = .returned (.string (bParen ++ A ++ bComma ++ B ++ bClose)) ∧ Below w.heap.size w w' := by
  obtain ⟨e0, e1, e2, e3⟩ := hr.box4
  have hK : Below w.heap.size w w := Below.refl _ _
  have l1 : (9223372036854775807 < 1 + A.size) = False := by simp; omega
  have l2 : (9223372036854775807 < 1 + A.size + 2) = False := by simp; omega
  have l3 : (9223372036854775807 < 1 + A.size + 2 + B.size) = False := by simp; omega
  have l4 : (9223372036854775807 < 1 + A.size + 2 + B.size + 1) = False := by simp; omega
  replace cA := Lib.hid cA; replace cB := Lib.hid cB
  clear hr
  go_enter Try.func26, Try.ntmps26
  go_wp2_with fail
  go_region_held3 (fun w' => w'.cell? ⟨b, 3, none⟩ = some (.slice (some ⟨g, off, none⟩) 2 cap) ∧ w'.cell? ⟨g, off, none⟩ = some (.pointer (some ⟨b0, 0, none⟩)) ∧ w'.cell? ⟨g, off + 1, none⟩ = some (.pointer (some ⟨b1, 0, none⟩)))
    (first | go_keep | (refine ⟨cell_below hb ?_, cell_below hb ?_, cell_below hb ?_⟩ <;> go_keep))
    (first
      | (go_at_call 26; ((with_reducible refine (cA.out _ (by go_grown)).mono ?_); rintro e w1 ⟨rfl, hb⟩; have hK : Below w.heap.size w w1 := Below.trans (by go_grown) (hb.mono (by first | (simp; done) | (have := hK.size; omega)))))
      | (go_at_call 26; ((with_reducible refine (cB.out _ (by go_grown)).mono ?_); rintro e w1 ⟨rfl, hb⟩; have hK : Below w.heap.size w w1 := Below.trans (by go_grown) (hb.mono (by first | (simp; done) | (have := hK.size; omega))))))
  all_goals go_wp2_with fail
  all_goals go_returns
  all_goals exact ⟨rfl, hK⟩

end Go.Proofs.Ytpblhonnknmjjaa
