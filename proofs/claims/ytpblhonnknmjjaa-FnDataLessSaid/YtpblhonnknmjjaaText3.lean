/- The text of a value: the program's dataText, constructors, and all. -/
import Derived.Test.YtpblhonnknmjjaaText2
namespace Go.Proofs.Ytpblhonnknmjjaa
open Go.RowKit
set_option linter.unusedVariables false
set_option linter.unusedSimpArgs false
attribute [local go_sem] Ext.cell

set_option maxRecDepth 100000 in
set_option maxHeartbeats 4000000 in
theorem text_cons (b g off c0 g2 off2 b0 b1 cap cap2 : Nat) (n : Int) (s A B : ByteArray) (w : World) (hr : RowAt w b 0 [.int .i64 4, .int .i64 n, .string s, .slice (some ⟨g, off, none⟩) 1 cap]) (hcap : 1 ≤ cap) (hcm : cap ≤ 9223372036854775807)
    (p : w.cell? ⟨g, off, none⟩ = some (.pointer (some ⟨c0, 0, none⟩))) (q : w.cell? ⟨c0, 3, none⟩ = some (.slice (some ⟨g2, off2, none⟩) 2 cap2)) (hcap2 : 2 ≤ cap2) (hcm2 : cap2 ≤ 9223372036854775807) (hs : (s.toList == sCons) = true)
    (p0 : w.cell? ⟨g2, off2, none⟩ = some (.pointer (some ⟨b0, 0, none⟩))) (p1 : w.cell? ⟨g2, off2 + 1, none⟩ = some (.pointer (some ⟨b1, 0, none⟩))) (hA : A.size ≤ 1073741824) (hB : B.size ≤ 1073741824)
    (cA : ∀ W, Below w.heap.size w W → Calls Try.prog 26 #[.pointer (some ⟨b0, 0, none⟩)] W fun e w' => e = .returned (.string A) ∧ Below W.heap.size W w')
    (cB : ∀ W, Below w.heap.size w W → Calls Try.prog 26 #[.pointer (some ⟨b1, 0, none⟩)] W fun e w' => e = .returned (.string B) ∧ Below W.heap.size W w') :
    Calls Try.prog 26 #[.pointer (some ⟨b, 0, none⟩)] w fun e w' => e = .returned (.string (bParen ++ A ++ bColons ++ B ++ bClose)) ∧ Below w.heap.size w w' := by
  obtain ⟨e0, e1, e2, e3⟩ := hr.box4
  have hK : Below w.heap.size w w := Below.refl _ _
  unfold sCons at hs
  have l1 : (9223372036854775807 < 1 + A.size) = False := by simp; omega
  have l2 : (9223372036854775807 < 1 + A.size + 4) = False := by simp; omega
  have l3 : (9223372036854775807 < 1 + A.size + 4 + B.size) = False := by simp; omega
  have l4 : (9223372036854775807 < 1 + A.size + 4 + B.size + 1) = False := by simp; omega
  replace cA := Lib.hid cA; replace cB := Lib.hid cB
  clear hr
  go_enter Try.func26, Try.ntmps26
  go_wp2_with fail
  go_region_held3 (fun w' => w'.cell? ⟨b, 3, none⟩ = some (.slice (some ⟨g, off, none⟩) 1 cap) ∧ w'.cell? ⟨g, off, none⟩ = some (.pointer (some ⟨c0, 0, none⟩)) ∧ w'.cell? ⟨c0, 3, none⟩ = some (.slice (some ⟨g2, off2, none⟩) 2 cap2) ∧ w'.cell? ⟨g2, off2, none⟩ = some (.pointer (some ⟨b0, 0, none⟩)) ∧ w'.cell? ⟨g2, off2 + 1, none⟩ = some (.pointer (some ⟨b1, 0, none⟩)))
    (first | go_keep | (refine ⟨cell_below hb ?_, cell_below hb ?_, cell_below hb ?_, cell_below hb ?_, cell_below hb ?_⟩ <;> go_keep))
    (first
      | (go_at_call 26; ((with_reducible refine (cA.out _ (by go_grown)).mono ?_); rintro e w1 ⟨rfl, hb⟩; have hK : Below w.heap.size w w1 := Below.trans (by go_grown) (hb.mono (by first | (simp; done) | (have := hK.size; omega)))))
      | (go_at_call 26; ((with_reducible refine (cB.out _ (by go_grown)).mono ?_); rintro e w1 ⟨rfl, hb⟩; have hK : Below w.heap.size w w1 := Below.trans (by go_grown) (hb.mono (by first | (simp; done) | (have := hK.size; omega))))))
  all_goals go_wp2_with fail
  all_goals go_returns
  all_goals exact ⟨rfl, hK⟩

set_option maxRecDepth 100000 in
set_option maxHeartbeats 4000000 in
theorem text_con (b g off b0 cap : Nat) (n : Int) (s A : ByteArray) (w : World) (hr : RowAt w b 0 [.int .i64 4, .int .i64 n, .string s, .slice (some ⟨g, off, none⟩) 1 cap]) (hcap : 1 ≤ cap) (hcm : cap ≤ 9223372036854775807)
    (p0 : w.cell? ⟨g, off, none⟩ = some (.pointer (some ⟨b0, 0, none⟩))) (hs : (s.toList == sCons) = false) (hss : s.size ≤ 1073741824) (hA : A.size ≤ 1073741824)
    (cA : ∀ W, Below w.heap.size w W → Calls Try.prog 26 #[.pointer (some ⟨b0, 0, none⟩)] W fun e w' => e = .returned (.string A) ∧ Below W.heap.size W w') :
    Calls Try.prog 26 #[.pointer (some ⟨b, 0, none⟩)] w fun e w' => e = .returned (.string (bParen ++ s ++ bSpace ++ A ++ bClose)) ∧ Below w.heap.size w w' := by
  obtain ⟨e0, e1, e2, e3⟩ := hr.box4
  have hK : Below w.heap.size w w := Below.refl _ _
  unfold sCons at hs
  have l1 : (9223372036854775807 < 1 + s.size) = False := by simp; omega
  have l2 : (9223372036854775807 < 1 + s.size + 1) = False := by simp; omega
  have l3 : (9223372036854775807 < 1 + s.size + 1 + A.size) = False := by simp; omega
  have l4 : (9223372036854775807 < 1 + s.size + 1 + A.size + 1) = False := by simp; omega
  replace cA := Lib.hid cA
  clear hr
  go_enter Try.func26, Try.ntmps26
  go_wp2_with fail
  go_region_held3 (fun w' => w'.cell? ⟨b, 2, none⟩ = some (.string s) ∧ w'.cell? ⟨b, 3, none⟩ = some (.slice (some ⟨g, off, none⟩) 1 cap) ∧ w'.cell? ⟨g, off, none⟩ = some (.pointer (some ⟨b0, 0, none⟩)))
    (first | go_keep | (refine ⟨cell_below hb ?_, cell_below hb ?_, cell_below hb ?_⟩ <;> go_keep))
    ((go_at_call 26; ((with_reducible refine (cA.out _ (by go_grown)).mono ?_); rintro e w1 ⟨rfl, hb⟩; have hK : Below w.heap.size w w1 := Below.trans (by go_grown) (hb.mono (by first | (simp; done) | (have := hK.size; omega))))))
  all_goals go_wp2_with fail
  all_goals go_returns
  all_goals exact ⟨rfl, hK⟩

theorem dataText_c : ∀ f, TextAt f := by
  intro f
  induction f using Nat.strongRecOn with
  | _ f ih =>
    intro S v t w h ht hw
    match f, h, ht, hw with
    | f + 1, ⟨b, a, cap, hv, _, hwf, hr, h1, h2, h3⟩, ⟨_, hk, hkids⟩, hw =>
      subst hv
      obtain ⟨kd, n, s, ks⟩ := t
      have hn : I64 n := hwf.2.1
      simp only [PxT.kind, PxT.n, PxT.s, PxT.kids] at *
      have hwt : 4 * s.size + 30 + (ks.map (wt f)).sum ≤ 1073741824 := hw
      rcases hk with ⟨e, hk⟩ | ⟨e, hk⟩ | ⟨e, hk⟩ | ⟨e, x, y, hk⟩ | ⟨e, hk | ⟨x, hk, hx5⟩⟩
      · subst e; rw [textT_int]
        exact text_leaf f b 3 n s _ w hr hn (by omega) _ (.inl ⟨rfl, rfl⟩)
      · subst e; rw [textT_str]
        exact text_leaf f b 2 n s _ w hr hn (by omega) _ (.inr (.inl ⟨rfl, rfl⟩))
      · subst e; rw [textT_unit]
        exact text_leaf f b 6 n s _ w hr hn (by omega) _ (.inr (.inr (.inl ⟨rfl, rfl⟩)))
      · subst e; subst hk
        rw [textT_pair]
        obtain ⟨g, off, rfl, _, hc⟩ := h3 (by simp)
        obtain ⟨p0, q0, R0⟩ := hc 0 x rfl
        obtain ⟨p1, q1, R1⟩ := hc 1 y rfl
        obtain ⟨b0, rfl⟩ := R0.form
        obtain ⟨b1, rfl⟩ := R1.form
        have tx := hkids x (by simp)
        have ty := hkids y (by simp)
        simp at hwt
        have lx := textT_len f x tx
        have ly := textT_len f y ty
        exact text_pair b g off b0 b1 cap n s (textT f x) (textT f y) w hr h1 h2 (by simpa using q0) q1 (by omega) (by omega)
          (fun W hW => ih f (by omega) S _ x W (R0.below hW) tx (by omega)) (fun W hW => ih f (by omega) S _ y W (R1.below hW) ty (by omega))
      · subst e; subst hk
        rw [textT_nil]
        exact text_leaf f b 4 n s _ w hr hn (by omega) _ (.inr (.inr (.inr ⟨rfl, ⟨a, cap, rfl⟩, rfl⟩)))
      · subst e; subst hk
        obtain ⟨g, off, rfl, _, hc⟩ := h3 (by simp)
        obtain ⟨p0, q0, R0⟩ := hc 0 x rfl
        obtain ⟨b0, rfl⟩ := R0.form
        have tx := hkids x (by simp)
        simp at hwt
        by_cases hs : (s.toList == sCons) = true
        · have e5 := hx5 hs
          match f, R0, tx with
          | f + 1, ⟨c0, a2, cap2, hv2, _, _, hr2, h12, h22, h32⟩, ⟨_, hkx, hkidsx⟩ =>
            obtain ⟨k5, n5, s5, ks5⟩ := x
            simp only [PxT.kind, PxT.n, PxT.s, PxT.kids] at *
            subst e5
            obtain ⟨x0, x1, hk5⟩ : ∃ x0 x1, ks5 = [x0, x1] := by
              rcases hkx with ⟨e, _⟩ | ⟨e, _⟩ | ⟨e, _⟩ | ⟨_, h⟩ | ⟨e, _⟩
              · omega
              · omega
              · omega
              · exact h
              · omega
            subst hk5
            rw [textT_cons _ _ _ _ _ _ _ hs]
            obtain ⟨g2, off2, rfl, _, hc2⟩ := h32 (by simp)
            obtain ⟨p2, q2, R2⟩ := hc2 0 x0 rfl
            obtain ⟨p3, q3, R3⟩ := hc2 1 x1 rfl
            obtain ⟨b2, rfl⟩ := R2.form
            obtain ⟨b3, rfl⟩ := R3.form
            obtain rfl : b0 = c0 := by injection hv2 with h; injection h with h; injection h with h
            have t0 := hkidsx x0 (by simp)
            have t1 := hkidsx x1 (by simp)
            have hw5 : 4 * s5.size + 30 + (wt f x0 + wt f x1) ≤ 1073741824 := by
              have : wt (f + 1) (.mk 5 n5 s5 [x0, x1]) = 4 * s5.size + 30 + (wt f x0 + wt f x1) := by
                show 4 * s5.size + 30 + ([x0, x1].map (wt f)).sum = _
                simp
              omega
            have l0 := textT_len f x0 t0
            have l1 := textT_len f x1 t1
            exact text_cons b g off b0 g2 off2 b2 b3 cap cap2 n s (textT f x0) (textT f x1) w hr h1 h2 (by simpa using q0) hr2.box4.2.2.2 h12 h22 hs (by simpa using q2) q3 (by omega) (by omega)
              (fun W hW => ih f (by omega) S _ x0 W (R2.below hW) t0 (by omega)) (fun W hW => ih f (by omega) S _ x1 W (R3.below hW) t1 (by omega))
        · rw [textT_con _ _ _ _ (by simpa using hs)]
          have lx := textT_len f x tx
          exact text_con b g off b0 cap n s (textT f x) w hr h1 h2 (by simpa using q0) (by simpa using hs) (by omega) (by omega) (fun W hW => ih f (by omega) S _ x W (R0.below hW) tx (by omega))

end Go.Proofs.Ytpblhonnknmjjaa
