/- DataText of both. -/
import Derived.Test.YtpblhonnknmjjaaText5
import Derived.Test.YtpblhonnknmjjaaText6
import Derived.Test.YtpblhonnknmjjaaGrowData
namespace Go.Proofs.Ytpblhonnknmjjaa
open Go.RowKit
set_option linter.unusedVariables false
set_option linter.unusedSimpArgs false
attribute [local go_sem] Ext.cell

theorem l21Text_c (d : GData) (hU : Up d.nodes) (hL : d.nodes.length ≤ 600) : ∀ (f i : Nat), i < d.nodes.length → d.nodes.length ≤ i + f → TOk f (treeOf d.nodes f i) → wt f (treeOf d.nodes f i) ≤ 1073741824 → ∀ (r : List Value) (lo : Nat) (w : World), GData.R lo w r d →
    Calls Try.prog 28 #[.agg r.toArray, .int .i64 i] w fun e w' => e = .returned (.string (textT f (treeOf d.nodes f i))) ∧ Below w.heap.size w w' := by
  intro f
  induction f using Nat.strongRecOn with
  | _ f ih =>
    intro i hi hf ht hw r lo w hr
    match f, ht, hw with
    | f + 1, ht, hw =>
      obtain ⟨u, rfl, -, hu⟩ := hr
      have Hu := hu
      obtain ⟨a, c, rfl, ul, um, h0⟩ := hu
      obtain ⟨nb, no, x, r1, _, rfl, P1, hx, R1⟩ := h0.get (Lib.hid rfl) hi
      have P1 := P1.out
      have hup := hU i x P1
      rw [treeOf_some P1] at ht hw ⊢
      obtain ⟨kd, n, s, ks⟩ := x
      obtain ⟨u0, rfl, hwf, hkd⟩ := hx
      obtain ⟨ka, kc, rfl, kl, km, k0⟩ := hkd
      have hn : I64 n := hwf.2.1
      obtain ⟨_, hk, hkids⟩ := ht
      have hwt : 4 * s.size + 30 + ((ks.map fun k => treeOf d.nodes f k.toNat).map (wt f)).sum ≤ 1073741824 := hw
      simp only [PxT.kind, PxT.n, PxT.s, PxT.kids] at *
      have HR : ∀ W, Below w.heap.size w W → GData.R lo W [.slice (some ⟨nb, no, none⟩) d.nodes.length c] d := fun W hW => ⟨_, rfl, trivial, Hu.below GDNode.good hW⟩
      rcases hk with ⟨e, hk⟩ | ⟨e, hk⟩ | ⟨e, hk⟩ | ⟨e, x, y, hk⟩ | ⟨e, hk | ⟨x, hk, hx5⟩⟩
      · subst e; rw [textT_int]
        exact stext_leaf nb no d.nodes.length c i 3 n s ka _ kc w hi hL R1 hn (by omega) _ (.inl ⟨rfl, rfl⟩)
      · subst e; rw [textT_str]
        exact stext_leaf nb no d.nodes.length c i 2 n s ka _ kc w hi hL R1 hn (by omega) _ (.inr (.inl ⟨rfl, rfl⟩))
      · subst e; rw [textT_unit]
        exact stext_leaf nb no d.nodes.length c i 6 n s ka _ kc w hi hL R1 hn (by omega) _ (.inr (.inr (.inl ⟨rfl, rfl⟩)))
      · subst e
        match ks, hk with
        | [p, q], hk =>
          obtain ⟨rfl, rfl⟩ : treeOf d.nodes f p.toNat = x ∧ treeOf d.nodes f q.toNat = y := by simpa using hk
          have hp := hup p (by simp)
          have hq := hup q (by simp)
          obtain ⟨p, rfl⟩ : ∃ p' : Nat, p = p' := ⟨p.toNat, by omega⟩
          obtain ⟨q, rfl⟩ : ∃ q' : Nat, q = q' := ⟨q.toNat, by omega⟩
          simp only [List.map_cons, List.map_nil, Int.toNat_natCast] at *
          rw [textT_pair]
          obtain ⟨kb, ko, z0, s0, _, rfl, Q0, ⟨rfl, _⟩, q0⟩ := k0.get (k := 0) (Lib.hid rfl) (by simp)
          obtain ⟨kb', ko', z1, s1, _, hh, Q1, ⟨rfl, _⟩, q1⟩ := k0.get (k := 1) (Lib.hid rfl) (by simp)
          obtain ⟨rfl, rfl⟩ : kb = kb' ∧ ko = ko' := by injection hh with h; injection h with h1 h2; exact ⟨h1, h2⟩
          obtain rfl : (p : Int) = z0 := by have := Q0.out; simpa using this
          obtain rfl : (q : Int) = z1 := by have := Q1.out; simpa using this
          have t0 := hkids _ (show treeOf d.nodes f p ∈ [treeOf d.nodes f p, treeOf d.nodes f q] by simp)
          have t1 := hkids _ (show treeOf d.nodes f q ∈ [treeOf d.nodes f p, treeOf d.nodes f q] by simp)
          simp at hwt
          have l0 := textT_len f _ t0
          have l1 := textT_len f _ t1
          exact stext_pair nb no d.nodes.length c i kb ko kc p q n s _ _ w hi hL R1 (by simpa using q0 0 _ rfl) (by simpa using q1 0 _ rfl) (by omega) (by omega)
            (fun W hW => ih f (by omega) p (by omega) (by omega) t0 (by omega) _ lo W (HR W hW)) (fun W hW => ih f (by omega) q (by omega) (by omega) t1 (by omega) _ lo W (HR W hW))
        | [], hk => simp at hk
        | [_], hk => simp at hk
        | _ :: _ :: _ :: _, hk => simp at hk
      · subst e
        have : ks = [] := by simpa using hk
        subst this
        rw [show (([] : List Int).map fun k => treeOf d.nodes f k.toNat) = [] from rfl, textT_nil]
        exact stext_leaf nb no d.nodes.length c i 4 n s ka 0 kc w hi hL R1 hn (by omega) _ (.inr (.inr (.inr ⟨rfl, rfl, rfl⟩)))
      · subst e
        match ks, hk with
        | [p], hk =>
          obtain rfl : treeOf d.nodes f p.toNat = x := by simpa using hk
          have hp := hup p (by simp)
          obtain ⟨p, rfl⟩ : ∃ p' : Nat, p = p' := ⟨p.toNat, by omega⟩
          simp only [List.map_cons, List.map_nil, Int.toNat_natCast] at *
          obtain ⟨kb, ko, z0, s0, _, rfl, Q0, ⟨rfl, _⟩, q0⟩ := k0.get (k := 0) (Lib.hid rfl) (by simp)
          obtain rfl : (p : Int) = z0 := by have := Q0.out; simpa using this
          have t0 := hkids _ (show treeOf d.nodes f p ∈ [treeOf d.nodes f p] by simp)
          simp at hwt
          by_cases hs : (s.toList == sCons) = true
          · have e5 := hx5 hs
            match f, t0, e5, hwt with
            | f + 1, t0, e5, hwt =>
              obtain ⟨nb', no', y, r5, _, hh, P5, hy, R5⟩ := h0.get (k := p) (Lib.hid rfl) (by omega)
              obtain ⟨rfl, rfl⟩ : nb = nb' ∧ no = no' := by injection hh with h; injection h with h1 h2; exact ⟨h1, h2⟩
              have P5 := P5.out
              have hup5 := hU p y P5
              rw [treeOf_some P5] at t0 e5 hwt ⊢
              obtain ⟨kd5, n5, s5, ks5⟩ := y
              obtain ⟨u5, rfl, _, hkd5⟩ := hy
              obtain ⟨ka5, kc5, rfl, kl5, km5, k5⟩ := hkd5
              simp only [PxT.kind, PxT.n, PxT.s, PxT.kids] at *
              subst e5
              obtain ⟨_, hk5, hkids5⟩ := t0
              simp only [PxT.kind, PxT.n, PxT.s, PxT.kids] at *
              have hk5' : ∃ a b, (ks5.map fun k => treeOf d.nodes f k.toNat) = [a, b] := by
                rcases hk5 with ⟨e, _⟩ | ⟨e, _⟩ | ⟨e, _⟩ | ⟨_, h⟩ | ⟨e, _⟩
                · omega
                · omega
                · omega
                · exact h
                · omega
              obtain ⟨x0, x1, hk5'⟩ := hk5'
              match ks5, hk5' with
              | [g0, g1], hk5' =>
                obtain ⟨rfl, rfl⟩ : treeOf d.nodes f g0.toNat = x0 ∧ treeOf d.nodes f g1.toNat = x1 := by simpa using hk5'
                have hg0 := hup5 g0 (by simp)
                have hg1 := hup5 g1 (by simp)
                obtain ⟨g0, rfl⟩ : ∃ p' : Nat, g0 = p' := ⟨g0.toNat, by omega⟩
                obtain ⟨g1, rfl⟩ : ∃ p' : Nat, g1 = p' := ⟨g1.toNat, by omega⟩
                simp only [List.map_cons, List.map_nil, Int.toNat_natCast] at *
                rw [textT_cons _ _ _ _ _ _ _ hs]
                obtain ⟨kb2, ko2, z2, s2, _, rfl, Q2, ⟨rfl, _⟩, q2⟩ := k5.get (k := 0) (Lib.hid rfl) (by simp)
                obtain ⟨kb3, ko3, z3, s3, _, hh3, Q3, ⟨rfl, _⟩, q3⟩ := k5.get (k := 1) (Lib.hid rfl) (by simp)
                obtain ⟨rfl, rfl⟩ : kb2 = kb3 ∧ ko2 = ko3 := by injection hh3 with h; injection h with h1 h2; exact ⟨h1, h2⟩
                obtain rfl : (g0 : Int) = z2 := by have := Q2.out; simpa using this
                obtain rfl : (g1 : Int) = z3 := by have := Q3.out; simpa using this
                have t2 := hkids5 _ (show treeOf d.nodes f g0 ∈ [treeOf d.nodes f g0, treeOf d.nodes f g1] by simp)
                have t3 := hkids5 _ (show treeOf d.nodes f g1 ∈ [treeOf d.nodes f g0, treeOf d.nodes f g1] by simp)
                have hw5 : wt (f + 1) (.mk 5 n5 s5 [treeOf d.nodes f g0, treeOf d.nodes f g1]) = 4 * s5.size + 30 + (wt f (treeOf d.nodes f g0) + wt f (treeOf d.nodes f g1)) := by
                  show 4 * s5.size + 30 + ([treeOf d.nodes f g0, treeOf d.nodes f g1].map (wt f)).sum = _
                  simp
                have l2 := textT_len f _ t2
                have l3 := textT_len f _ t3
                exact stext_cons nb no d.nodes.length c i p kb ko kc kb2 ko2 kc5 g0 g1 n n5 s s5 _ _ w hi (by omega) hL R1 R5 (by simpa using q0 0 _ rfl) hs (by simpa using q2 0 _ rfl) (by simpa using q3 0 _ rfl) (by omega) (by omega)
                  (fun W hW => ih f (by omega) g0 (by omega) (by omega) t2 (by omega) _ lo W (HR W hW)) (fun W hW => ih f (by omega) g1 (by omega) (by omega) t3 (by omega) _ lo W (HR W hW))
              | [], hk => simp at hk
              | [_], hk => simp at hk
              | _ :: _ :: _ :: _, hk => simp at hk
          · rw [textT_con _ _ _ _ (by simpa using hs)]
            have l0 := textT_len f _ t0
            exact stext_con nb no d.nodes.length c i kb ko kc p n s _ w hi hL R1 (by simpa using q0 0 _ rfl) (by simpa using hs) (by omega) (by omega)
              (fun W hW => ih f (by omega) p (by omega) (by omega) t0 (by omega) _ lo W (HR W hW))
        | [], hk => simp at hk
        | _ :: _ :: _, hk => simp at hk

end Go.Proofs.Ytpblhonnknmjjaa
