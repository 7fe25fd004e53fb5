/- Parts of the proof, merged: PText. -/
import Derived.Deep.RegionHeld3
import Derived.Test.YtklfepnokidnaaaSc22
/- The text of a pattern: plain law; the program's patText over trees. -/
namespace Go.Proofs.Ytklfepnokidnaaa
open Go.RowKit
set_option linter.unusedVariables false
set_option linter.unusedSimpArgs false
attribute [local go_sem] Ext.cell

def bWild : ByteArray := ⟨#[95]⟩
def ptextT (f : Nat) (t : PxT) : ByteArray :=
  match f with
  | 0 => ByteArray.empty
  | f + 1 =>
    if t.kind = 1 then bWild
    else if t.kind = 3 then numText t.n
    else if t.kind = 2 then t.s
    else if t.kind = 6 then bUnit
    else if t.kind = 5 then bParen ++ ptextT f (t.kid 0) ++ bComma ++ ptextT f (t.kid 1) ++ bClose
    else if t.kids.length = 0 then t.s
    else if (t.s.toList == sCons) = true then bParen ++ ptextT (f - 1) ((t.kid 0).kid 0) ++ bColons ++ ptextT (f - 1) ((t.kid 0).kid 1) ++ bClose
    else bParen ++ t.s ++ bSpace ++ ptextT f (t.kid 0) ++ bClose
termination_by f
theorem ptextT_wild (f : Nat) (n : Int) (s : ByteArray) (ks : List PxT) : ptextT (f + 1) (.mk 1 n s ks) = bWild := by rw [ptextT]; exact if_pos rfl
theorem ptextT_int (f : Nat) (n : Int) (s : ByteArray) (ks : List PxT) : ptextT (f + 1) (.mk 3 n s ks) = numText n := by rw [ptextT]; simp [PxT.kind, PxT.n]
theorem ptextT_var (f : Nat) (n : Int) (s : ByteArray) (ks : List PxT) : ptextT (f + 1) (.mk 2 n s ks) = s := by rw [ptextT]; simp [PxT.kind, PxT.s]
theorem ptextT_unit (f : Nat) (n : Int) (s : ByteArray) (ks : List PxT) : ptextT (f + 1) (.mk 6 n s ks) = bUnit := by rw [ptextT]; simp [PxT.kind]
theorem ptextT_pair (f : Nat) (n : Int) (s : ByteArray) (x y : PxT) : ptextT (f + 1) (.mk 5 n s [x, y]) = bParen ++ ptextT f x ++ bComma ++ ptextT f y ++ bClose := by rw [ptextT]; simp [PxT.kind, PxT.kid, PxT.kids]
theorem ptextT_nil (f : Nat) (n : Int) (s : ByteArray) : ptextT (f + 1) (.mk 4 n s []) = s := by rw [ptextT]; simp [PxT.kind, PxT.kids, PxT.s]
theorem ptextT_cons (f : Nat) (n n5 : Int) (s s5 : ByteArray) (x y : PxT) (hs : (s.toList == sCons) = true) : ptextT (f + 2) (.mk 4 n s [.mk 5 n5 s5 [x, y]]) = bParen ++ ptextT f x ++ bColons ++ ptextT f y ++ bClose := by
  rw [ptextT]
  have hs' : s.toList = sCons := eq_of_beq hs
  simp [PxT.kind, PxT.kids, PxT.s, PxT.kid, hs']
theorem ptextT_con (f : Nat) (n : Int) (s : ByteArray) (x : PxT) (hs : (s.toList == sCons) = false) : ptextT (f + 1) (.mk 4 n s [x]) = bParen ++ s ++ bSpace ++ ptextT f x ++ bClose := by
  rw [ptextT]
  have hs' : ¬ s.toList = sCons := by simpa using hs
  simp [PxT.kind, PxT.kids, PxT.s, PxT.kid, hs']

/-- A tree whose nodes have as many children as their kinds want. -/
def PTOk : Nat → PxT → Prop
  | 0, _ => False
  | f + 1, t => t.wf ∧ (((t.kind = 1 ∨ t.kind = 3 ∨ t.kind = 2 ∨ t.kind = 6) ∧ t.kids = []) ∨ (t.kind = 5 ∧ ∃ a b, t.kids = [a, b]) ∨ (t.kind = 4 ∧ (t.kids = [] ∨ ∃ a, t.kids = [a] ∧ ((t.s.toList == sCons) = true → a.kind = 5)))) ∧ ∀ k ∈ t.kids, PTOk f k
theorem ptextT_len : ∀ (f : Nat) (t : PxT), PTOk f t → (ptextT f t).size ≤ wt f t := by
  intro f
  induction f using Nat.strongRecOn with
  | _ f ih =>
    intro t ht
    match f, ht with
    | f + 1, ⟨hwf, hk, hkids⟩ =>
      obtain ⟨kd, n, s, ks⟩ := t
      simp only [PxT.kind, PxT.kids, PxT.s] at hk hkids
      rcases hk with ⟨h, e⟩ | ⟨rfl, a, b, rfl⟩ | ⟨rfl, rfl | ⟨a, rfl, hc⟩⟩
      · subst e
        rcases h with rfl | rfl | rfl | rfl
        · rw [ptextT_wild]; show 1 ≤ 4 * s.size + 30 + 0; omega
        · rw [ptextT_int]; have := numText_len n; show _ ≤ 4 * s.size + 30 + 0; omega
        · rw [ptextT_var]; show _ ≤ 4 * s.size + 30 + 0; omega
        · rw [ptextT_unit]; show 2 ≤ 4 * s.size + 30 + 0; omega
      · rw [ptextT_pair]
        have h1 := ih f (by omega) a (hkids a (by simp))
        have h2 := ih f (by omega) b (hkids b (by simp))
        simp only [ByteArray.size_append]
        show 1 + (ptextT f a).size + 2 + (ptextT f b).size + 1 ≤ 4 * s.size + 30 + ([a, b].map (wt f)).sum
        simp
        omega
      · rw [ptextT_nil]; show _ ≤ 4 * s.size + 30 + 0; omega
      · by_cases hs : (s.toList == sCons) = true
        · have hta := hkids a (by simp)
          match f, hta with
          | f + 1, ⟨_, hka, hkk⟩ =>
            have e5 := hc hs
            obtain ⟨kd5, n5, s5, ks5⟩ := a
            simp only [PxT.kind, PxT.kids] at e5 hka hkk
            subst e5
            obtain ⟨g0, g1, rfl⟩ : ∃ g0 g1, ks5 = [g0, g1] := by
              rcases hka with ⟨h, _⟩ | ⟨_, h⟩ | ⟨h, _⟩
              · omega
              · exact h
              · omega
            rw [ptextT_cons _ _ _ _ _ _ _ hs]
            have h1 := ih f (by omega) g0 (hkk g0 (by simp))
            have h2 := ih f (by omega) g1 (hkk g1 (by simp))
            simp only [ByteArray.size_append]
            have hw : wt (f + 2) (.mk 4 n s [.mk 5 n5 s5 [g0, g1]]) = 4 * s.size + 30 + (4 * s5.size + 30 + (wt f g0 + wt f g1)) := by
              show 4 * s.size + 30 + ([PxT.mk 5 n5 s5 [g0, g1]].map (wt (f + 1))).sum = _
              simp [wt, PxT.s, PxT.kids]
            rw [hw]
            show 1 + (ptextT f g0).size + 4 + (ptextT f g1).size + 1 ≤ _
            omega
        · rw [ptextT_con _ _ _ _ (by simpa using hs)]
          have h1 := ih f (by omega) a (hkids a (by simp))
          simp only [ByteArray.size_append]
          show 1 + s.size + 1 + (ptextT f a).size + 1 ≤ 4 * s.size + 30 + ([a].map (wt f)).sum
          simp
          omega

/-- What the function owes at trees of at most f levels. -/
def PTextAt (f : Nat) : Prop := ∀ (S : Nat → Prop) (v : Value) (t : PxT) (w : World), PxR f S w v t → PTOk f t → wt f t ≤ 1073741824 → Calls Try.prog 46 #[v] w fun e w' => e = .returned (.string (ptextT f t)) ∧ Below w.heap.size w w'

set_option maxRecDepth 100000 in
set_option maxHeartbeats 4000000 in
theorem ptext_leaf (f : Nat) (b : Nat) (kd n : Int) (s : ByteArray) (u : Value) (w : World) (hr : RowAt w b 0 [.int .i64 kd, .int .i64 n, .string s, u]) (hn : I64 n) (hs : s.size ≤ 1073741824) (r : ByteArray)
    (hk : (kd = 1 ∧ r = bWild) ∨ (kd = 3 ∧ r = numText n) ∨ (kd = 2 ∧ r = s) ∨ (kd = 6 ∧ r = bUnit) ∨ (kd = 4 ∧ (∃ a c, u = .slice a 0 c) ∧ r = s)) :
    Calls Try.prog 46 #[.pointer (some ⟨b, 0, none⟩)] w fun e w' => e = .returned (.string r) ∧ Below w.heap.size w w' := by
  obtain ⟨e0, e1, e2, e3⟩ := hr.box4
  clear hr
  rcases hk with ⟨rfl, rfl⟩ | ⟨rfl, rfl⟩ | ⟨rfl, rfl⟩ | ⟨rfl, rfl⟩ | ⟨rfl, ⟨a, c, rfl⟩, rfl⟩
  · go_enter Try.func46, Try.ntmps46
    go_wp2_with fail
    go_returns
    exact ⟨rfl, Below.refl _ _⟩
  · have c1 := fun W => impl_NumText_c n hn W
    generalize numText n = t at *
    go_enter Try.func46, Try.ntmps46
    go_wp2_with (go_at_call 44; ((with_reducible refine (c1 _).mono ?_); rintro e w1 ⟨rfl, hb⟩))
    go_returns
    exact ⟨rfl, hb⟩
  · go_enter Try.func46, Try.ntmps46
    go_wp2_with fail
    go_returns
    exact ⟨rfl, Below.refl _ _⟩
  · go_enter Try.func46, Try.ntmps46
    go_wp2_with fail
    go_returns
    exact ⟨rfl, Below.refl _ _⟩
  · go_enter Try.func46, Try.ntmps46
    go_wp2_with fail
    go_returns
    exact ⟨rfl, Below.refl _ _⟩

set_option maxRecDepth 100000 in
set_option maxHeartbeats 4000000 in
theorem ptext_pair (b g off b0 b1 cap : Nat) (n : Int) (s A B : ByteArray) (w : World) (hr : RowAt w b 0 [.int .i64 5, .int .i64 n, .string s, .slice (some ⟨g, off, none⟩) 2 cap]) (hcap : 2 ≤ cap) (hcm : cap ≤ 9223372036854775807)
    (p0 : w.cell? ⟨g, off, none⟩ = some (.pointer (some ⟨b0, 0, none⟩))) (p1 : w.cell? ⟨g, off + 1, none⟩ = some (.pointer (some ⟨b1, 0, none⟩))) (hA : A.size ≤ 1073741824) (hB : B.size ≤ 1073741824)
    (cA : ∀ W, Below w.heap.size w W → Calls Try.prog 46 #[.pointer (some ⟨b0, 0, none⟩)] W fun e w' => e = .returned (.string A) ∧ Below W.heap.size W w')
    (cB : ∀ W, Below w.heap.size w W → Calls Try.prog 46 #[.pointer (some ⟨b1, 0, none⟩)] W fun e w' => e = .returned (.string B) ∧ Below W.heap.size W w') :
    Calls Try.prog 46 #[.pointer (some ⟨b, 0, none⟩)] w fun e w' => e = .returned (.string (bParen ++ A ++ bComma ++ B ++ bClose)) ∧ Below w.heap.size w w' := by
  obtain ⟨e0, e1, e2, e3⟩ := hr.box4
  have hK : Below w.heap.size w w := Below.refl _ _
  have l1 : (9223372036854775807 < 1 + A.size) = False := by simp; omega
  have l2 : (9223372036854775807 < 1 + A.size + 2) = False := by simp; omega
  have l3 : (9223372036854775807 < 1 + A.size + 2 + B.size) = False := by simp; omega
  have l4 : (9223372036854775807 < 1 + A.size + 2 + B.size + 1) = False := by simp; omega
  replace cA := Lib.hid cA; replace cB := Lib.hid cB
  clear hr
  go_enter Try.func46, Try.ntmps46
  go_wp2_with fail
  go_region_held3 (fun w' => w'.cell? ⟨b, 3, none⟩ = some (.slice (some ⟨g, off, none⟩) 2 cap) ∧ w'.cell? ⟨g, off, none⟩ = some (.pointer (some ⟨b0, 0, none⟩)) ∧ w'.cell? ⟨g, off + 1, none⟩ = some (.pointer (some ⟨b1, 0, none⟩)))
    (first | go_keep | (refine ⟨cell_below hb ?_, cell_below hb ?_, cell_below hb ?_⟩ <;> go_keep))
    (first
      | (go_at_call 46; ((with_reducible refine (cA.out _ (by go_grown)).mono ?_); rintro e w1 ⟨rfl, hb⟩; have hK : Below w.heap.size w w1 := Below.trans (by go_grown) (hb.mono (by first | (simp; done) | (have := hK.size; omega)))))
      | (go_at_call 46; ((with_reducible refine (cB.out _ (by go_grown)).mono ?_); rintro e w1 ⟨rfl, hb⟩; have hK : Below w.heap.size w w1 := Below.trans (by go_grown) (hb.mono (by first | (simp; done) | (have := hK.size; omega))))))
  all_goals go_wp2_with fail
  all_goals go_returns
  all_goals exact ⟨rfl, hK⟩

set_option maxRecDepth 100000 in
set_option maxHeartbeats 4000000 in
theorem ptext_cons (b g off c0 g2 off2 b0 b1 cap cap2 : Nat) (n : Int) (s A B : ByteArray) (w : World) (hr : RowAt w b 0 [.int .i64 4, .int .i64 n, .string s, .slice (some ⟨g, off, none⟩) 1 cap]) (hcap : 1 ≤ cap) (hcm : cap ≤ 9223372036854775807)
    (p : w.cell? ⟨g, off, none⟩ = some (.pointer (some ⟨c0, 0, none⟩))) (q : w.cell? ⟨c0, 3, none⟩ = some (.slice (some ⟨g2, off2, none⟩) 2 cap2)) (hcap2 : 2 ≤ cap2) (hcm2 : cap2 ≤ 9223372036854775807) (hs : (s.toList == sCons) = true)
    (p0 : w.cell? ⟨g2, off2, none⟩ = some (.pointer (some ⟨b0, 0, none⟩))) (p1 : w.cell? ⟨g2, off2 + 1, none⟩ = some (.pointer (some ⟨b1, 0, none⟩))) (hA : A.size ≤ 1073741824) (hB : B.size ≤ 1073741824)
    (cA : ∀ W, Below w.heap.size w W → Calls Try.prog 46 #[.pointer (some ⟨b0, 0, none⟩)] W fun e w' => e = .returned (.string A) ∧ Below W.heap.size W w')
    (cB : ∀ W, Below w.heap.size w W → Calls Try.prog 46 #[.pointer (some ⟨b1, 0, none⟩)] W fun e w' => e = .returned (.string B) ∧ Below W.heap.size W w') :
    Calls Try.prog 46 #[.pointer (some ⟨b, 0, none⟩)] w fun e w' => e = .returned (.string (bParen ++ A ++ bColons ++ B ++ bClose)) ∧ Below w.heap.size w w' := by
  obtain ⟨e0, e1, e2, e3⟩ := hr.box4
  have hK : Below w.heap.size w w := Below.refl _ _
  unfold sCons at hs
  have l1 : (9223372036854775807 < 1 + A.size) = False := by simp; omega
  have l2 : (9223372036854775807 < 1 + A.size + 4) = False := by simp; omega
  have l3 : (9223372036854775807 < 1 + A.size + 4 + B.size) = False := by simp; omega
  have l4 : (9223372036854775807 < 1 + A.size + 4 + B.size + 1) = False := by simp; omega
  replace cA := Lib.hid cA; replace cB := Lib.hid cB
  clear hr
  go_enter Try.func46, Try.ntmps46
  go_wp2_with fail
  go_region_held3 (fun w' => w'.cell? ⟨b, 3, none⟩ = some (.slice (some ⟨g, off, none⟩) 1 cap) ∧ w'.cell? ⟨g, off, none⟩ = some (.pointer (some ⟨c0, 0, none⟩)) ∧ w'.cell? ⟨c0, 3, none⟩ = some (.slice (some ⟨g2, off2, none⟩) 2 cap2) ∧ w'.cell? ⟨g2, off2, none⟩ = some (.pointer (some ⟨b0, 0, none⟩)) ∧ w'.cell? ⟨g2, off2 + 1, none⟩ = some (.pointer (some ⟨b1, 0, none⟩)))
    (first | go_keep | (refine ⟨cell_below hb ?_, cell_below hb ?_, cell_below hb ?_, cell_below hb ?_, cell_below hb ?_⟩ <;> go_keep))
    (first
      | (go_at_call 46; ((with_reducible refine (cA.out _ (by go_grown)).mono ?_); rintro e w1 ⟨rfl, hb⟩; have hK : Below w.heap.size w w1 := Below.trans (by go_grown) (hb.mono (by first | (simp; done) | (have := hK.size; omega)))))
      | (go_at_call 46; ((with_reducible refine (cB.out _ (by go_grown)).mono ?_); rintro e w1 ⟨rfl, hb⟩; have hK : Below w.heap.size w w1 := Below.trans (by go_grown) (hb.mono (by first | (simp; done) | (have := hK.size; omega))))))
  all_goals go_wp2_with fail
  all_goals go_returns
  all_goals exact ⟨rfl, hK⟩

set_option maxRecDepth 100000 in
set_option maxHeartbeats 4000000 in
theorem ptext_con (b g off b0 cap : Nat) (n : Int) (s A : ByteArray) (w : World) (hr : RowAt w b 0 [.int .i64 4, .int .i64 n, .string s, .slice (some ⟨g, off, none⟩) 1 cap]) (hcap : 1 ≤ cap) (hcm : cap ≤ 9223372036854775807)
    (p0 : w.cell? ⟨g, off, none⟩ = some (.pointer (some ⟨b0, 0, none⟩))) (hs : (s.toList == sCons) = false) (hss : s.size ≤ 1073741824) (hA : A.size ≤ 1073741824)
    (cA : ∀ W, Below w.heap.size w W → Calls Try.prog 46 #[.pointer (some ⟨b0, 0, none⟩)] W fun e w' => e = .returned (.string A) ∧ Below W.heap.size W w') :
    Calls Try.prog 46 #[.pointer (some ⟨b, 0, none⟩)] w fun e w' => e = .returned (.string (bParen ++ s ++ bSpace ++ A ++ bClose)) ∧ Below w.heap.size w w' := by
  obtain ⟨e0, e1, e2, e3⟩ := hr.box4
  have hK : Below w.heap.size w w := Below.refl _ _
  unfold sCons at hs
  have l1 : (9223372036854775807 < 1 + s.size) = False := by simp; omega
  have l2 : (9223372036854775807 < 1 + s.size + 1) = False := by simp; omega
  have l3 : (9223372036854775807 < 1 + s.size + 1 + A.size) = False := by simp; omega
  have l4 : (9223372036854775807 < 1 + s.size + 1 + A.size + 1) = False := by simp; omega
  replace cA := Lib.hid cA
  clear hr
  go_enter Try.func46, Try.ntmps46
  go_wp2_with fail
  go_region_held3 (fun w' => w'.cell? ⟨b, 2, none⟩ = some (.string s) ∧ w'.cell? ⟨b, 3, none⟩ = some (.slice (some ⟨g, off, none⟩) 1 cap) ∧ w'.cell? ⟨g, off, none⟩ = some (.pointer (some ⟨b0, 0, none⟩)))
    (first | go_keep | (refine ⟨cell_below hb ?_, cell_below hb ?_, cell_below hb ?_⟩ <;> go_keep))
    ((go_at_call 46; ((with_reducible refine (cA.out _ (by go_grown)).mono ?_); rintro e w1 ⟨rfl, hb⟩; have hK : Below w.heap.size w w1 := Below.trans (by go_grown) (hb.mono (by first | (simp; done) | (have := hK.size; omega))))))
  all_goals go_wp2_with fail
  all_goals go_returns
  all_goals exact ⟨rfl, hK⟩

theorem patText_c : ∀ f, PTextAt f := by
  intro f
  induction f using Nat.strongRecOn with
  | _ f ih =>
    intro S v t w h ht hw
    match f, h, ht, hw with
    | f + 1, ⟨b, a, cap, hv, _, hwf, hr, h1, h2, h3⟩, ⟨_, hk, hkids⟩, hw =>
      subst hv
      obtain ⟨kd, n, s, ks⟩ := t
      have hn : I64 n := hwf.2.1
      simp only [PxT.kind, PxT.n, PxT.s, PxT.kids] at *
      have hwt : 4 * s.size + 30 + (ks.map (wt f)).sum ≤ 1073741824 := hw
      rcases hk with ⟨e, hk⟩ | ⟨e, x, y, hk⟩ | ⟨e, hk | ⟨x, hk, hx5⟩⟩
      · rcases e with e | e | e | e
        · subst e; rw [ptextT_wild]
          exact ptext_leaf f b 1 n s _ w hr hn (by omega) _ (.inl ⟨rfl, rfl⟩)
        · subst e; rw [ptextT_int]
          exact ptext_leaf f b 3 n s _ w hr hn (by omega) _ (.inr (.inl ⟨rfl, rfl⟩))
        · subst e; rw [ptextT_var]
          exact ptext_leaf f b 2 n s _ w hr hn (by omega) _ (.inr (.inr (.inl ⟨rfl, rfl⟩)))
        · subst e; rw [ptextT_unit]
          exact ptext_leaf f b 6 n s _ w hr hn (by omega) _ (.inr (.inr (.inr (.inl ⟨rfl, rfl⟩))))
      · subst e; subst hk
        rw [ptextT_pair]
        obtain ⟨g, off, rfl, _, hc⟩ := h3 (by simp)
        obtain ⟨p0, q0, R0⟩ := hc 0 x rfl
        obtain ⟨p1, q1, R1⟩ := hc 1 y rfl
        obtain ⟨b0, rfl⟩ := R0.form
        obtain ⟨b1, rfl⟩ := R1.form
        have tx := hkids x (by simp)
        have ty := hkids y (by simp)
        simp at hwt
        have lx := ptextT_len f x tx
        have ly := ptextT_len f y ty
        exact ptext_pair b g off b0 b1 cap n s (ptextT f x) (ptextT f y) w hr h1 h2 (by simpa using q0) q1 (by omega) (by omega)
          (fun W hW => ih f (by omega) S _ x W (R0.below hW) tx (by omega)) (fun W hW => ih f (by omega) S _ y W (R1.below hW) ty (by omega))
      · subst e; subst hk
        rw [ptextT_nil]
        exact ptext_leaf f b 4 n s _ w hr hn (by omega) _ (.inr (.inr (.inr (.inr ⟨rfl, ⟨a, cap, rfl⟩, rfl⟩))))
      · subst e; subst hk
        obtain ⟨g, off, rfl, _, hc⟩ := h3 (by simp)
        obtain ⟨p0, q0, R0⟩ := hc 0 x rfl
        obtain ⟨b0, rfl⟩ := R0.form
        have tx := hkids x (by simp)
        simp at hwt
        by_cases hs : (s.toList == sCons) = true
        · have e5 := hx5 hs
          match f, R0, tx with
          | f + 1, ⟨c0, a2, cap2, hv2, _, _, hr2, h12, h22, h32⟩, ⟨_, hkx, hkidsx⟩ =>
            obtain ⟨k5, n5, s5, ks5⟩ := x
            simp only [PxT.kind, PxT.n, PxT.s, PxT.kids] at *
            subst e5
            obtain ⟨x0, x1, hk5⟩ : ∃ x0 x1, ks5 = [x0, x1] := by
              rcases hkx with ⟨e, _⟩ | ⟨_, h⟩ | ⟨e, _⟩
              · omega
              · exact h
              · omega
            subst hk5
            rw [ptextT_cons _ _ _ _ _ _ _ hs]
            obtain ⟨g2, off2, rfl, _, hc2⟩ := h32 (by simp)
            obtain ⟨p2, q2, R2⟩ := hc2 0 x0 rfl
            obtain ⟨p3, q3, R3⟩ := hc2 1 x1 rfl
            obtain ⟨b2, rfl⟩ := R2.form
            obtain ⟨b3, rfl⟩ := R3.form
            obtain rfl : b0 = c0 := by injection hv2 with h; injection h with h; injection h with h
            have t0 := hkidsx x0 (by simp)
            have t1 := hkidsx x1 (by simp)
            have hw5 : 4 * s5.size + 30 + (wt f x0 + wt f x1) ≤ 1073741824 := by
              have : wt (f + 1) (.mk 5 n5 s5 [x0, x1]) = 4 * s5.size + 30 + (wt f x0 + wt f x1) := by
                show 4 * s5.size + 30 + ([x0, x1].map (wt f)).sum = _
                simp
              omega
            have l0 := ptextT_len f x0 t0
            have l1 := ptextT_len f x1 t1
            exact ptext_cons b g off b0 g2 off2 b2 b3 cap cap2 n s (ptextT f x0) (ptextT f x1) w hr h1 h2 (by simpa using q0) hr2.box4.2.2.2 h12 h22 hs (by simpa using q2) q3 (by omega) (by omega)
              (fun W hW => ih f (by omega) S _ x0 W (R2.below hW) t0 (by omega)) (fun W hW => ih f (by omega) S _ x1 W (R3.below hW) t1 (by omega))
        · rw [ptextT_con _ _ _ _ (by simpa using hs)]
          have lx := ptextT_len f x tx
          exact ptext_con b g off b0 cap n s (ptextT f x) w hr h1 h2 (by simpa using q0) (by simpa using hs) (by omega) (by omega) (fun W hW => ih f (by omega) S _ x W (R0.below hW) tx (by omega))


end Go.Proofs.Ytklfepnokidnaaa
