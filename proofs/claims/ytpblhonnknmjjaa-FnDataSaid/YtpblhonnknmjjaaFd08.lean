/- Parts of the proof, merged: Text7, Text8, Read, TextNum. -/
import Derived.Test.YtpblhonnknmjjaaFd07
/- DataText of both. -/
namespace Go.Proofs.Ytpblhonnknmjjaa
open Go.RowKit
set_option linter.unusedVariables false
set_option linter.unusedSimpArgs false
attribute [local go_sem] Ext.cell

theorem l21Text_c (d : GData) (hU : Up d.nodes) (hL : d.nodes.length ≤ 600) : ∀ (f i : Nat), i < d.nodes.length → d.nodes.length ≤ i + f → TOk f (treeOf d.nodes f i) → wt f (treeOf d.nodes f i) ≤ 1073741824 → ∀ (r : List Value) (lo : Nat) (w : World), GData.R lo w r d →
    Calls Try.prog 28 #[.agg r.toArray, .int .i64 i] w fun e w' => e = .returned (.string (textT f (treeOf d.nodes f i))) ∧ Below w.heap.size w w' := by
  intro f
  induction f using Nat.strongRecOn with
  | _ f ih =>
    intro i hi hf ht hw r lo w hr
    match f, ht, hw with
    | f + 1, ht, hw =>
      obtain ⟨u, rfl, -, hu⟩ := hr
      have Hu := hu
      obtain ⟨a, c, rfl, ul, um, h0⟩ := hu
      obtain ⟨nb, no, x, r1, _, rfl, P1, hx, R1⟩ := h0.get (Lib.hid rfl) hi
      have P1 := P1.out
      have hup := hU i x P1
      rw [treeOf_some P1] at ht hw ⊢
      obtain ⟨kd, n, s, ks⟩ := x
      obtain ⟨u0, rfl, hwf, hkd⟩ := hx
      obtain ⟨ka, kc, rfl, kl, km, k0⟩ := hkd
      have hn : I64 n := hwf.2.1
      obtain ⟨_, hk, hkids⟩ := ht
      have hwt : 4 * s.size + 30 + ((ks.map fun k => treeOf d.nodes f k.toNat).map (wt f)).sum ≤ 1073741824 := hw
      simp only [PxT.kind, PxT.n, PxT.s, PxT.kids] at *
      have HR : ∀ W, Below w.heap.size w W → GData.R lo W [.slice (some ⟨nb, no, none⟩) d.nodes.length c] d := fun W hW => ⟨_, rfl, trivial, Hu.below GDNode.good hW⟩
      rcases hk with ⟨e, hk⟩ | ⟨e, hk⟩ | ⟨e, hk⟩ | ⟨e, x, y, hk⟩ | ⟨e, hk | ⟨x, hk, hx5⟩⟩
      · subst e; rw [textT_int]
        exact stext_leaf nb no d.nodes.length c i 3 n s ka _ kc w hi hL R1 hn (by omega) _ (.inl ⟨rfl, rfl⟩)
      · subst e; rw [textT_str]
        exact stext_leaf nb no d.nodes.length c i 2 n s ka _ kc w hi hL R1 hn (by omega) _ (.inr (.inl ⟨rfl, rfl⟩))
      · subst e; rw [textT_unit]
        exact stext_leaf nb no d.nodes.length c i 6 n s ka _ kc w hi hL R1 hn (by omega) _ (.inr (.inr (.inl ⟨rfl, rfl⟩)))
      · subst e
        match ks, hk with
        | [p, q], hk =>
          obtain ⟨rfl, rfl⟩ : treeOf d.nodes f p.toNat = x ∧ treeOf d.nodes f q.toNat = y := by simpa using hk
          have hp := hup p (by simp)
          have hq := hup q (by simp)
          obtain ⟨p, rfl⟩ : ∃ p' : Nat, p = p' := ⟨p.toNat, by omega⟩
          obtain ⟨q, rfl⟩ : ∃ q' : Nat, q = q' := ⟨q.toNat, by omega⟩
          simp only [List.map_cons, List.map_nil, Int.toNat_natCast] at *
          rw [textT_pair]
          obtain ⟨kb, ko, z0, s0, _, rfl, Q0, ⟨rfl, _⟩, q0⟩ := k0.get (k := 0) (Lib.hid rfl) (by simp)
          obtain ⟨kb', ko', z1, s1, _, hh, Q1, ⟨rfl, _⟩, q1⟩ := k0.get (k := 1) (Lib.hid rfl) (by simp)
          obtain ⟨rfl, rfl⟩ : kb = kb' ∧ ko = ko' := by injection hh with h; injection h with h1 h2; exact ⟨h1, h2⟩
          obtain rfl : (p : Int) = z0 := by have := Q0.out; simpa using this
          obtain rfl : (q : Int) = z1 := by have := Q1.out; simpa using this
          have t0 := hkids _ (show treeOf d.nodes f p ∈ [treeOf d.nodes f p, treeOf d.nodes f q] by simp)
          have t1 := hkids _ (show treeOf d.nodes f q ∈ [treeOf d.nodes f p, treeOf d.nodes f q] by simp)
          simp at hwt
          have l0 := textT_len f _ t0
          have l1 := textT_len f _ t1
          exact stext_pair nb no d.nodes.length c i kb ko kc p q n s _ _ w hi hL R1 (by simpa using q0 0 _ rfl) (by simpa using q1 0 _ rfl) (by omega) (by omega)
            (fun W hW => ih f (by omega) p (by omega) (by omega) t0 (by omega) _ lo W (HR W hW)) (fun W hW => ih f (by omega) q (by omega) (by omega) t1 (by omega) _ lo W (HR W hW))
        | [], hk => simp at hk
        | [_], hk => simp at hk
        | _ :: _ :: _ :: _, hk => simp at hk
      · subst e
        have : ks = [] := by simpa using hk
        subst this
        rw [show (([] : List Int).map fun k => treeOf d.nodes f k.toNat) = [] from rfl, textT_nil]
        exact stext_leaf nb no d.nodes.length c i 4 n s ka 0 kc w hi hL R1 hn (by omega) _ (.inr (.inr (.inr ⟨rfl, rfl, rfl⟩)))
      · subst e
        match ks, hk with
        | [p], hk =>
          obtain rfl : treeOf d.nodes f p.toNat = x := by simpa using hk
          have hp := hup p (by simp)
          obtain ⟨p, rfl⟩ : ∃ p' : Nat, p = p' := ⟨p.toNat, by omega⟩
          simp only [List.map_cons, List.map_nil, Int.toNat_natCast] at *
          obtain ⟨kb, ko, z0, s0, _, rfl, Q0, ⟨rfl, _⟩, q0⟩ := k0.get (k := 0) (Lib.hid rfl) (by simp)
          obtain rfl : (p : Int) = z0 := by have := Q0.out; simpa using this
          have t0 := hkids _ (show treeOf d.nodes f p ∈ [treeOf d.nodes f p] by simp)
          simp at hwt
          by_cases hs : (s.toList == sCons) = true
          · have e5 := hx5 hs
            match f, t0, e5, hwt with
            | f + 1, t0, e5, hwt =>
              obtain ⟨nb', no', y, r5, _, hh, P5, hy, R5⟩ := h0.get (k := p) (Lib.hid rfl) (by omega)
              obtain ⟨rfl, rfl⟩ : nb = nb' ∧ no = no' := by injection hh with h; injection h with h1 h2; exact ⟨h1, h2⟩
              have P5 := P5.out
              have hup5 := hU p y P5
              rw [treeOf_some P5] at t0 e5 hwt ⊢
              obtain ⟨kd5, n5, s5, ks5⟩ := y
              obtain ⟨u5, rfl, _, hkd5⟩ := hy
              obtain ⟨ka5, kc5, rfl, kl5, km5, k5⟩ := hkd5
              simp only [PxT.kind, PxT.n, PxT.s, PxT.kids] at *
              subst e5
              obtain ⟨_, hk5, hkids5⟩ := t0
              simp only [PxT.kind, PxT.n, PxT.s, PxT.kids] at *
              have hk5' : ∃ a b, (ks5.map fun k => treeOf d.nodes f k.toNat) = [a, b] := by
                rcases hk5 with ⟨e, _⟩ | ⟨e, _⟩ | ⟨e, _⟩ | ⟨_, h⟩ | ⟨e, _⟩
                · omega
                · omega
                · omega
                · exact h
                · omega
              obtain ⟨x0, x1, hk5'⟩ := hk5'
              match ks5, hk5' with
              | [g0, g1], hk5' =>
                obtain ⟨rfl, rfl⟩ : treeOf d.nodes f g0.toNat = x0 ∧ treeOf d.nodes f g1.toNat = x1 := by simpa using hk5'
                have hg0 := hup5 g0 (by simp)
                have hg1 := hup5 g1 (by simp)
                obtain ⟨g0, rfl⟩ : ∃ p' : Nat, g0 = p' := ⟨g0.toNat, by omega⟩
                obtain ⟨g1, rfl⟩ : ∃ p' : Nat, g1 = p' := ⟨g1.toNat, by omega⟩
                simp only [List.map_cons, List.map_nil, Int.toNat_natCast] at *
                rw [textT_cons _ _ _ _ _ _ _ hs]
                obtain ⟨kb2, ko2, z2, s2, _, rfl, Q2, ⟨rfl, _⟩, q2⟩ := k5.get (k := 0) (Lib.hid rfl) (by simp)
                obtain ⟨kb3, ko3, z3, s3, _, hh3, Q3, ⟨rfl, _⟩, q3⟩ := k5.get (k := 1) (Lib.hid rfl) (by simp)
                obtain ⟨rfl, rfl⟩ : kb2 = kb3 ∧ ko2 = ko3 := by injection hh3 with h; injection h with h1 h2; exact ⟨h1, h2⟩
                obtain rfl : (g0 : Int) = z2 := by have := Q2.out; simpa using this
                obtain rfl : (g1 : Int) = z3 := by have := Q3.out; simpa using this
                have t2 := hkids5 _ (show treeOf d.nodes f g0 ∈ [treeOf d.nodes f g0, treeOf d.nodes f g1] by simp)
                have t3 := hkids5 _ (show treeOf d.nodes f g1 ∈ [treeOf d.nodes f g0, treeOf d.nodes f g1] by simp)
                have hw5 : wt (f + 1) (.mk 5 n5 s5 [treeOf d.nodes f g0, treeOf d.nodes f g1]) = 4 * s5.size + 30 + (wt f (treeOf d.nodes f g0) + wt f (treeOf d.nodes f g1)) := by
                  show 4 * s5.size + 30 + ([treeOf d.nodes f g0, treeOf d.nodes f g1].map (wt f)).sum = _
                  simp
                have l2 := textT_len f _ t2
                have l3 := textT_len f _ t3
                exact stext_cons nb no d.nodes.length c i p kb ko kc kb2 ko2 kc5 g0 g1 n n5 s s5 _ _ w hi (by omega) hL R1 R5 (by simpa using q0 0 _ rfl) hs (by simpa using q2 0 _ rfl) (by simpa using q3 0 _ rfl) (by omega) (by omega)
                  (fun W hW => ih f (by omega) g0 (by omega) (by omega) t2 (by omega) _ lo W (HR W hW)) (fun W hW => ih f (by omega) g1 (by omega) (by omega) t3 (by omega) _ lo W (HR W hW))
              | [], hk => simp at hk
              | [_], hk => simp at hk
              | _ :: _ :: _ :: _, hk => simp at hk
          · rw [textT_con _ _ _ _ (by simpa using hs)]
            have l0 := textT_len f _ t0
            exact stext_con nb no d.nodes.length c i kb ko kc p n s _ w hi hL R1 (by simpa using q0 0 _ rfl) (by simpa using hs) (by omega) (by omega)
              (fun W hW => ih f (by omega) p (by omega) (by omega) t0 (by omega) _ lo W (HR W hW))
        | [], hk => simp at hk
        | _ :: _ :: _, hk => simp at hk

end Go.Proofs.Ytpblhonnknmjjaa

/- DataText of both. -/
namespace Go.Proofs.Ytpblhonnknmjjaa
open Go.RowKit
set_option linter.unusedVariables false
set_option linter.unusedSimpArgs false
attribute [local go_sem] Ext.cell

/-- The text of a right value, none of what is none. -/
def dataText (d : GData) : ByteArray := if dataOk d then textT d.nodes.length (treeOf d.nodes d.nodes.length 0) else ByteArray.empty

theorem data_wf {d : GData} {r : List Value} {lo : Nat} {w : World} (hr : GData.R lo w r d) : ∀ (j : Nat) x, d.nodes[j]? = some x → x.wf := by
  intro j x hx
  obtain ⟨u, rfl, -, hu⟩ := hr
  obtain ⟨a, c, rfl, ul, um, h0⟩ := hu
  have hj := (List.getElem?_eq_some_iff.1 hx).1
  obtain ⟨b, o, y, s, _, _, P, ⟨_, _, hy, _⟩, _⟩ := h0.get (Lib.hid rfl) hj
  obtain rfl : x = y := Option.some.inj (hx.symm.trans P.out)
  exact hy

set_option maxRecDepth 100000 in
set_option maxHeartbeats 4000000 in
theorem impl_DataText_c (d : GData) (r : List Value) (lo : Nat) (hbk : d.bulk ≤ 1048576) (w : World) (hr : GData.R lo w r d) :
    Calls Try.prog 10 #[.agg r.toArray] w fun e w' => e = .returned (.string (dataText d)) ∧ Below w.heap.size w w' := by
  have hd : d.nodes.length ≤ 1152921504606846976 := by have := length_le_bulkS GDNode.bulk_nonneg d.nodes; unfold GData.bulk at hbk; omega
  have c1 := fun W (hW : Below w.heap.size w W) => DataOk_c d hd r lo W (GData.good.below hr hW)
  unfold dataText
  cases hok : dataOk d with
  | false =>
    rw [hok] at c1
    obtain ⟨u, rfl, -, hu⟩ := hr
    obtain ⟨a, c, rfl⟩ := hu.form
    clear hu hbk
    replace c1 := Lib.hid c1
    generalize d.nodes.length = n at *
    go_enter Try.func10, Try.ntmps10
    go_upto_region 1 with fail
    have B : RowAt (w.alloc (.cells #[.slice a n c] 25)) (w.heap.size) 0 [.slice a n c] := RowAt.box w #[.slice a n c] 25
    have hw : Below w.heap.size w (w.alloc (.cells #[.slice a n c] 25)) := by go_grown
    generalize (w.alloc (.cells #[.slice a n c] 25)) = w0 at *
    have b_0 := B.box1; have hsB := World.block_lt_of_cell? _ _ b_0; dsimp only at hsB
    go_wp2_with (go_at_call 22; ((with_reducible refine (c1.out _ hw).mono ?_); rintro e w1 ⟨rfl, hb⟩; have hw := hw.trans (hb.mono hw.size); have B := B.below hb; have b_0 := B.box1; have hsB := World.block_lt_of_cell? _ _ b_0; dsimp only at hsB; clear hb))
    go_returns
    exact ⟨rfl, hw⟩
  | true =>
    rw [hok] at c1
    obtain ⟨hU, h0, hL⟩ := dataOk_up hok
    have hfew := dataOk_few hok
    have htok := treeOf_tok d.nodes hU (dataOk_nodes hok) (data_wf hr) d.nodes.length 0 h0 (by omega)
    have hwt := wt_data hok hbk
    have Hr := hr
    obtain ⟨u, rfl, -, hu⟩ := hr
    have c2 : ∀ W, Below w.heap.size w W → Calls Try.prog 27 #[u, .int .i64 0] W fun e w' => ∃ b, e = .returned (.pointer (some ⟨b, 0, none⟩)) ∧ PxR d.nodes.length (fun b => W.heap.size ≤ b) w' (.pointer (some ⟨b, 0, none⟩)) (treeOf d.nodes d.nodes.length 0) ∧ Below W.heap.size W w' := fun W hW => growData_c d.nodes hU hfew hL d.nodes.length 0 u lo W (hu.below GDNode.good hW) h0 (by omega)
    have c3 := fun v S W (hW : PxR d.nodes.length S W v (treeOf d.nodes d.nodes.length 0)) => dataText_c d.nodes.length S v (treeOf d.nodes d.nodes.length 0) W hW htok hwt
    obtain ⟨a, c, rfl⟩ := hu.form
    clear hu Hr hU hfew hok htok hwt hbk
    generalize d.nodes.length = n at *
    generalize treeOf d.nodes n 0 = t at *
    generalize textT n t = dd at *
    replace c1 := Lib.hid c1; replace c2 := Lib.hid c2; replace c3 := Lib.hid c3
    go_enter Try.func10, Try.ntmps10
    go_upto_region 1 with fail
    have B : RowAt (w.alloc (.cells #[.slice a n c] 25)) (w.heap.size) 0 [.slice a n c] := RowAt.box w #[.slice a n c] 25
    have hw : Below w.heap.size w (w.alloc (.cells #[.slice a n c] 25)) := by go_grown
    generalize (w.alloc (.cells #[.slice a n c] 25)) = w0 at *
    have b_0 := B.box1; have hsB := World.block_lt_of_cell? _ _ b_0; dsimp only at hsB
    go_wp2_with (first | (go_at_call 22; ((with_reducible refine (c1.out _ hw).mono ?_); rintro e w1 ⟨rfl, hb⟩; have hw := hw.trans (hb.mono hw.size); have B := B.below hb; have b_0 := B.box1; have hsB := World.block_lt_of_cell? _ _ b_0; dsimp only at hsB; clear hb)) | (go_at_call 27; ((with_reducible refine (c2.out _ hw).mono ?_); rintro e w1 ⟨pb, rfl, hP, hb⟩; have hw := hw.trans (hb.mono hw.size); have B := B.below hb; have b_0 := B.box1; have hsB := World.block_lt_of_cell? _ _ b_0; dsimp only at hsB; clear hb)) | (go_at_call 26; ((with_reducible refine (c3.out _ _ _ hP).mono ?_); rintro e w1 ⟨rfl, hb⟩; have hw := hw.trans (hb.mono hw.size); have B := B.below hb; have b_0 := B.box1; have hsB := World.block_lt_of_cell? _ _ b_0; dsimp only at hsB; clear hb)))
    go_returns
    exact ⟨rfl, hw⟩

set_option maxRecDepth 100000 in
set_option maxHeartbeats 4000000 in
theorem spec_DataText_c (d : GData) (r : List Value) (lo : Nat) (hbk : d.bulk ≤ 1048576) (w : World) (hr : GData.R lo w r d) :
    Calls Try.prog 12 #[.agg r.toArray] w fun e w' => e = .returned (.string (dataText d)) ∧ Below w.heap.size w w' := by
  have hd : d.nodes.length ≤ 1152921504606846976 := by have := length_le_bulkS GDNode.bulk_nonneg d.nodes; unfold GData.bulk at hbk; omega
  have c1 := fun W (hW : Below w.heap.size w W) => specDataOk_c d hd r lo W (GData.good.below hr hW)
  unfold dataText
  cases hok : dataOk d with
  | false =>
    rw [hok] at c1
    obtain ⟨u, rfl, -, hu⟩ := hr
    obtain ⟨a, c, rfl⟩ := hu.form
    clear hu hbk
    replace c1 := Lib.hid c1
    generalize d.nodes.length = n at *
    go_enter Try.func12, Try.ntmps12
    go_upto_region 1 with fail
    have B : RowAt (w.alloc (.cells #[.slice a n c] 25)) (w.heap.size) 0 [.slice a n c] := RowAt.box w #[.slice a n c] 25
    have hw : Below w.heap.size w (w.alloc (.cells #[.slice a n c] 25)) := by go_grown
    generalize (w.alloc (.cells #[.slice a n c] 25)) = w0 at *
    have b_0 := B.box1; have hsB := World.block_lt_of_cell? _ _ b_0; dsimp only at hsB
    go_wp2_with (go_at_call 9; ((with_reducible refine (c1.out _ hw).mono ?_); rintro e w1 ⟨rfl, hb⟩; have hw := hw.trans (hb.mono hw.size); have B := B.below hb; have b_0 := B.box1; have hsB := World.block_lt_of_cell? _ _ b_0; dsimp only at hsB; clear hb))
    go_returns
    exact ⟨rfl, hw⟩
  | true =>
    rw [hok] at c1
    obtain ⟨hU, h0, hL⟩ := dataOk_up hok
    have htok := treeOf_tok d.nodes hU (dataOk_nodes hok) (data_wf hr) d.nodes.length 0 h0 (by omega)
    have hwt := wt_data hok hbk
    have c2 : ∀ W, Below w.heap.size w W → Calls Try.prog 28 #[.agg r.toArray, .int .i64 0] W fun e w' => e = .returned (.string (textT d.nodes.length (treeOf d.nodes d.nodes.length 0))) ∧ Below W.heap.size W w' := fun W hW => l21Text_c d hU hL d.nodes.length 0 h0 (by omega) htok hwt r lo W (GData.good.below hr hW)
    obtain ⟨u, rfl, -, hu⟩ := hr
    obtain ⟨a, c, rfl⟩ := hu.form
    clear hu hU hok htok hwt hbk
    generalize d.nodes.length = n at *
    generalize textT n (treeOf d.nodes n 0) = dd at *
    replace c1 := Lib.hid c1; replace c2 := Lib.hid c2
    go_enter Try.func12, Try.ntmps12
    go_upto_region 1 with fail
    have B : RowAt (w.alloc (.cells #[.slice a n c] 25)) (w.heap.size) 0 [.slice a n c] := RowAt.box w #[.slice a n c] 25
    have hw : Below w.heap.size w (w.alloc (.cells #[.slice a n c] 25)) := by go_grown
    generalize (w.alloc (.cells #[.slice a n c] 25)) = w0 at *
    have b_0 := B.box1; have hsB := World.block_lt_of_cell? _ _ b_0; dsimp only at hsB
    go_wp2_with (first | (go_at_call 9; ((with_reducible refine (c1.out _ hw).mono ?_); rintro e w1 ⟨rfl, hb⟩; have hw := hw.trans (hb.mono hw.size); have B := B.below hb; have b_0 := B.box1; have hsB := World.block_lt_of_cell? _ _ b_0; dsimp only at hsB; clear hb)) | (go_at_call 28; ((with_reducible refine (c2.out _ hw).mono ?_); rintro e w1 ⟨rfl, hb⟩; have hw := hw.trans (hb.mono hw.size); have B := B.below hb; have b_0 := B.box1; have hsB := World.block_lt_of_cell? _ _ b_0; dsimp only at hsB; clear hb)))
    go_returns
    exact ⟨rfl, hw⟩

end Go.Proofs.Ytpblhonnknmjjaa

/- Values are recovered from their texts: a reader in plain Lean, and what it reads of a right value's text. -/
namespace Go.Proofs.Ytpblhonnknmjjaa
open Go.RowKit
set_option linter.unusedVariables false
set_option linter.unusedSimpArgs false

/-- A byte that ends a word: space, comma, either parenthesis. -/
def stopB (b : UInt8) : Bool := b == 32 || b == 44 || b == 41 || b == 40
def wOf (l : List UInt8) : List UInt8 := l.takeWhile fun b => !stopB b
def wRest (l : List UInt8) : List UInt8 := l.dropWhile fun b => !stopB b
def isAt (t l : List UInt8) : Bool := t.isPrefixOf l
def kColons : List UInt8 := [32, 58, 58, 32]
def kComma : List UInt8 := [44, 32]
def In63 (n : Int) : Prop := -4611686018427387904 ≤ n ∧ n ≤ 4611686018427387903
def numL (n : Int) : List UInt8 := (numText n).data.toList
open Classical in
noncomputable def textNum (l : List UInt8) : Option Int := if h : ∃ n, In63 n ∧ numL n = l then some h.choose else none
open Classical in
noncomputable def unquote (l : List UInt8) : Option ByteArray := if h : ∃ s : ByteArray, (quoteS s).data.toList = l then some h.choose else none
/-- From behind the first quote to behind the last. -/
def scanQ : List UInt8 → Option (List UInt8 × List UInt8)
  | [] => none
  | b :: l => if b = 34 then some ([34], l) else if b = 92 then (match l with
    | [] => none
    | c :: r => (scanQ r).map fun p => (92 :: c :: p.1, p.2)) else (scanQ l).map fun p => (b :: p.1, p.2)
def upHead (l : List UInt8) : Bool := match l with
  | [] => false
  | b :: _ => decide (65 ≤ b.toNat ∧ b.toNat ≤ 90)
def tInt (n : Int) : PxT := .mk 3 n ByteArray.empty []
def tStr (s : ByteArray) : PxT := .mk 2 0 s []
def tUnit : PxT := .mk 6 0 ByteArray.empty []
def tCon0 (s : ByteArray) : PxT := .mk 4 0 s []
def tPair (a b : PxT) : PxT := .mk 5 0 ByteArray.empty [a, b]
def tCons (a b : PxT) : PxT := .mk 4 0 ⟨sCons.toArray⟩ [tPair a b]
def tCon1 (s : ByteArray) (a : PxT) : PxT := .mk 4 0 s [a]
abbrev Rd := List UInt8 → Option (PxT × List UInt8)
/-- What stands behind a parenthesis. -/
def readIn (rd : Rd) : Rd := fun l =>
  if isAt [41] l then some (tUnit, l.drop 1)
  else if (upHead l && (isAt [32] (wRest l) && !isAt kColons (wRest l))) = true then
    match rd ((wRest l).drop 1) with
    | none => none
    | some (k, r) => if isAt [41] r then some (tCon1 ⟨(wOf l).toArray⟩ k, r.drop 1) else none
  else match rd l with
    | none => none
    | some (a, r) =>
      if isAt kColons r then match rd (r.drop 4) with
        | none => none
        | some (b, r2) => if isAt [41] r2 then some (tCons a b, r2.drop 1) else none
      else if isAt kComma r then match rd (r.drop 2) with
        | none => none
        | some (b, r2) => if isAt [41] r2 then some (tPair a b, r2.drop 1) else none
      else none
open Classical in
/-- The reference's reader: f more parentheses may be opened. -/
noncomputable def readS : Nat → Rd
  | 0, _ => none
  | f + 1, l => match l with
    | [] => none
    | b :: l' => if b = 40 then readIn (readS f) l'
      else if b = 34 then match scanQ l' with
        | none => none
        | some (p, r) => match unquote (34 :: p) with
          | none => none
          | some s => some (tStr s, r)
      else match textNum (wOf l) with
        | some n => some (tInt n, wRest l)
        | none => some (tCon0 ⟨(wOf l).toArray⟩, wRest l)

/-! ### What may stand behind a value -/
def GoodR (r : List UInt8) : Prop := ∀ b l, r = b :: l → stopB b = true
theorem goodR_nil : GoodR [] := fun b l h => by cases h
theorem goodR_cons {b : UInt8} {l : List UInt8} (h : stopB b = true) : GoodR (b :: l) := fun c m e => by injection e with e1 e2; rw [← e1]; exact h
theorem span_word : ∀ {w r : List UInt8}, (∀ b ∈ w, stopB b = false) → GoodR r → wOf (w ++ r) = w ∧ wRest (w ++ r) = r
  | [], r, _, h => by
    cases r with
    | nil => exact ⟨rfl, rfl⟩
    | cons b l =>
      have := h b l rfl
      simp [wOf, wRest, this]
  | c :: w, r, h0, h => by
    have hc := h0 c (by simp)
    obtain ⟨h1, h2⟩ := span_word (w := w) (r := r) (fun b hb => h0 b (by simp [hb])) h
    unfold wOf at h1 ⊢
    unfold wRest at h2 ⊢
    simp only [List.cons_append, List.takeWhile_cons, List.dropWhile_cons, hc, Bool.not_false, if_true, h1, h2, and_self]
theorem isAt_self (t r : List UInt8) : isAt t (t ++ r) = true := by unfold isAt; simp
theorem isAt_one {b : UInt8} {l : List UInt8} {c : UInt8} : isAt [c] (b :: l) = (c == b) := by simp [isAt, List.isPrefixOf]

/-! ### Numbers -/
def digVal (b : UInt8) : Nat := b.toNat - 48
def revVal : List UInt8 → Nat
  | [] => 0
  | b :: l => digVal b + 10 * revVal l
theorem revVal_revd (n : Nat) : revVal (revd n) = n := by
  induction n using Nat.strongRecOn with
  | _ n ih =>
    by_cases h : n < 10
    · rw [revd_small h]
      show digVal (dig n) + 10 * 0 = n
      unfold digVal
      rw [dig_toNat]
      omega
    · rw [revd_step h]
      show digVal (dig n) + 10 * revVal (revd (n / 10)) = n
      rw [ih (n / 10) (by omega)]
      unfold digVal
      rw [dig_toNat]
      omega
theorem revd_digits : ∀ (m n : Nat), n ≤ m → ∀ b ∈ revd n, 48 ≤ b.toNat ∧ b.toNat ≤ 57
  | m, n, hm, b, hb => by
    by_cases h : n < 10
    · rw [revd_small h] at hb
      simp at hb; subst hb
      rw [dig_toNat]; omega
    · rw [revd_step h] at hb
      rcases List.mem_cons.1 hb with rfl | hb
      · rw [dig_toNat]; omega
      · exact revd_digits (n / 10) (n / 10) (Nat.le_refl _) b hb
termination_by _ n => n
theorem revd_ne (n : Nat) : revd n ≠ [] := by
  by_cases h : n < 10
  · rw [revd_small h]; simp
  · rw [revd_step h]; simp
theorem numS_list (n : Nat) : (numS n).data.toList = (revd n).reverse := rfl
theorem numL_eq {n : Int} (h : In63 n) : numL n = if n < 0 then 45 :: (revd n.natAbs).reverse else (revd n.natAbs).reverse := by
  unfold numL numText
  rw [if_pos (by unfold In63 at h; omega)]
  split
  · rw [ByteArray.data_append]
    rw [Array.toList_append]
    rfl
  · rfl
theorem numL_ne {n : Int} (h : In63 n) : numL n ≠ [] := by
  rw [numL_eq h]
  split
  · simp
  · simpa using revd_ne _
theorem numL_bytes {n : Int} (h : In63 n) : ∀ b ∈ numL n, b.toNat = 45 ∨ (48 ≤ b.toNat ∧ b.toNat ≤ 57) := by
  rw [numL_eq h]
  intro b hb
  split at hb
  · rcases List.mem_cons.1 hb with rfl | hb
    · exact .inl rfl
    · exact .inr (revd_digits _ _ (Nat.le_refl _) b (by simpa using hb))
  · exact .inr (revd_digits _ _ (Nat.le_refl _) b (by simpa using hb))
theorem numL_inj {n m : Int} (hn : In63 n) (hm : In63 m) (h : numL n = numL m) : n = m := by
  have key : ∀ a b : Nat, (revd a).reverse = (revd b).reverse → a = b := fun a b h => by
    have h := List.reverse_inj.1 h
    rw [← revVal_revd a, ← revVal_revd b, h]
  have hd : ∀ (a : Nat) (l : List UInt8), (revd a).reverse ≠ 45 :: l := fun a l h => by
    have : (45 : UInt8) ∈ (revd a).reverse := by rw [h]; simp
    have := revd_digits _ _ (Nat.le_refl _) 45 (by simpa using this)
    simp at this
  rw [numL_eq hn, numL_eq hm] at h
  split at h <;> split at h
  · injection h with _ h; have := key _ _ h; omega
  · exact absurd h.symm (hd _ _)
  · exact absurd h (hd _ _)
  · have := key _ _ h; omega
theorem textNum_num {n : Int} (h : In63 n) : textNum (numL n) = some n := by
  unfold textNum
  have h0 : ∃ m, In63 m ∧ numL m = numL n := ⟨n, h, rfl⟩
  rw [dif_pos h0]
  exact congrArg some (numL_inj h0.choose_spec.1 h h0.choose_spec.2)
theorem textNum_no {b : UInt8} {l : List UInt8} (h1 : b.toNat ≠ 45) (h2 : ¬ (48 ≤ b.toNat ∧ b.toNat ≤ 57)) : textNum (b :: l) = none := by
  unfold textNum
  rw [dif_neg]
  rintro ⟨n, hn, he⟩
  have := numL_bytes hn b (by rw [he]; simp)
  omega

/-! ### Strings -/
theorem hxB_toNat {d : Nat} (h : d ≤ 15) : (hxB d).toNat = if d < 10 then 48 + d else 87 + d := by
  unfold hxB hxI
  have : ((if (d : Int) < 10 then 48 + (d : Int) else 87 + (d : Int)) : Int).toNat = if d < 10 then 48 + d else 87 + d := by split <;> split <;> omega
  rw [this, UInt8.toNat_ofNat', Nat.mod_eq_of_lt (by split <;> omega)]
theorem scanQ_step (b : UInt8) (l : List UInt8) : scanQ (quoteB b ++ l) = (scanQ l).map fun p => (quoteB b ++ p.1, p.2) := by
  have hlt := b.toNat_lt
  unfold quoteB
  have ne : ∀ (x : UInt8) (k : UInt8), x.toNat ≠ k.toNat → ¬ x = k := fun x k h e => h (by rw [e])
  have plain : ∀ (x : UInt8) (m : List UInt8), x.toNat ≠ 34 → x.toNat ≠ 92 → scanQ (x :: m) = (scanQ m).map fun p => (x :: p.1, p.2) := fun x m h1 h2 => by
    conv => lhs; unfold scanQ
    rw [if_neg (ne x 34 h1), if_neg (ne x 92 h2)]
  have esc : ∀ (x : UInt8) (m : List UInt8), scanQ (92 :: x :: m) = (scanQ m).map fun p => (92 :: x :: p.1, p.2) := fun x m => by
    conv => lhs; unfold scanQ
    rw [if_neg (by decide), if_pos rfl]
  split
  · exact esc 110 l
  · split
    · exact esc b l
    · split
      · exact plain b l (by omega) (by omega)
      · show scanQ (92 :: 120 :: hxB (b.toNat / 16) :: hxB (b.toNat % 16) :: l) = _
        have h1 := hxB_toNat (d := b.toNat / 16) (by omega)
        have h2 := hxB_toNat (d := b.toNat % 16) (by omega)
        rw [esc, plain _ _ (by rw [h1]; split <;> omega) (by rw [h1]; split <;> omega), plain _ _ (by rw [h2]; split <;> omega) (by rw [h2]; split <;> omega)]
        cases scanQ l <;> rfl
theorem scanQ_quote (r : List UInt8) : ∀ (l : List UInt8), scanQ (l.flatMap quoteB ++ (34 :: r)) = some (l.flatMap quoteB ++ [34], r)
  | [] => by
    show scanQ (34 :: r) = _
    unfold scanQ
    rw [if_pos rfl]; rfl
  | b :: l => by
    have e : (b :: l).flatMap quoteB = quoteB b ++ l.flatMap quoteB := by simp
    rw [e, List.append_assoc, scanQ_step, scanQ_quote r l]
    simp
theorem quoteB_ways (b : UInt8) : (b = 10 ∧ quoteB b = [92, 110]) ∨ ((b = 34 ∨ b = 92) ∧ quoteB b = [92, b]) ∨ ((32 ≤ b.toNat ∧ b.toNat ≤ 126 ∧ b ≠ 92) ∧ quoteB b = [b]) ∨ quoteB b = [92, 120, hxB (b.toNat / 16), hxB (b.toNat % 16)] := by
  have eqn : ∀ x y : UInt8, x.toNat = y.toNat → x = y := fun x y h => UInt8.toNat_inj.1 h
  unfold quoteB
  by_cases h1 : (b.toNat : Int) = 10
  · rw [if_pos h1]; exact .inl ⟨eqn _ _ (by show b.toNat = 10; omega), rfl⟩
  · rw [if_neg h1]
    by_cases h2 : (b.toNat : Int) = 34 ∨ (b.toNat : Int) = 92
    · rw [if_pos h2]
      refine .inr (.inl ⟨?_, rfl⟩)
      rcases h2 with h2 | h2
      · exact .inl (eqn _ _ (by show b.toNat = 34; omega))
      · exact .inr (eqn _ _ (by show b.toNat = 92; omega))
    · rw [if_neg h2]
      by_cases h3 : 32 ≤ (b.toNat : Int) ∧ (b.toNat : Int) ≤ 126
      · rw [if_pos h3]
        exact .inr (.inr (.inl ⟨⟨by omega, by omega, fun e => h2 (.inr (by rw [e]; decide))⟩, rfl⟩))
      · rw [if_neg h3]; exact .inr (.inr (.inr rfl))
theorem quoteB_inj {b c : UInt8} {l m : List UInt8} (h : quoteB b ++ l = quoteB c ++ m) : b = c ∧ l = m := by
  have hb := b.toNat_lt
  have hc := c.toNat_lt
  have eqn : ∀ x y : UInt8, x.toNat = y.toNat → x = y := fun x y h => UInt8.toNat_inj.1 h
  have tn : ∀ {x y : UInt8}, x = y → x.toNat = y.toNat := fun h => by rw [h]
  rcases quoteB_ways b with ⟨hb1, e1⟩ | ⟨hb1, e1⟩ | ⟨⟨_, _, hb1⟩, e1⟩ | e1 <;> rcases quoteB_ways c with ⟨hc1, e2⟩ | ⟨hc1, e2⟩ | ⟨⟨_, _, hc1⟩, e2⟩ | e2
  all_goals rw [e1, e2] at h; simp only [List.cons_append, List.nil_append, List.cons.injEq, true_and] at h
  · exact ⟨by rw [hb1, hc1], h⟩
  · exfalso; rcases hc1 with rfl | rfl <;> exact absurd h.1 (by decide)
  · exact absurd h.1.symm hc1
  · exact absurd h.1 (by decide)
  · exfalso; rcases hb1 with rfl | rfl <;> exact absurd h.1 (by decide)
  · exact h
  · exact absurd h.1.symm hc1
  · exfalso; rcases hb1 with rfl | rfl <;> exact absurd h.1 (by decide)
  · exact absurd h.1 hb1
  · exact absurd h.1 hb1
  · exact h
  · exact absurd h.1 hb1
  · exact absurd h.1 (by decide)
  · exfalso; rcases hc1 with rfl | rfl <;> exact absurd h.1 (by decide)
  · exact absurd h.1.symm hc1
  · obtain ⟨e1, e2, h⟩ := h
    have e1 := tn e1; have e2 := tn e2
    rw [hxB_toNat (by omega), hxB_toNat (by omega)] at e1 e2
    refine ⟨eqn _ _ ?_, h⟩
    split at e1 <;> split at e1 <;> split at e2 <;> split at e2 <;> omega
theorem flat_inj : ∀ {l m : List UInt8} {r q : List UInt8}, l.flatMap quoteB ++ (34 :: r) = m.flatMap quoteB ++ (34 :: q) → l = m ∧ r = q
  | [], [], r, q, h => by injection h with _ h; exact ⟨rfl, h⟩
  | [], c :: m, r, q, h => by
    exfalso
    have h1 := scanQ_quote r []
    rw [h, scanQ_quote q (c :: m)] at h1
    have h2 := congrArg (fun o => o.map fun p => p.1.length) h1
    have h3 := (quoteB_len c).2
    simp at h2
    omega
  | b :: l, [], r, q, h => by
    exfalso
    have h1 := scanQ_quote q []
    rw [← h, scanQ_quote r (b :: l)] at h1
    have h2 := congrArg (fun o => o.map fun p => p.1.length) h1
    have h3 := (quoteB_len b).2
    simp at h2
    omega
  | b :: l, c :: m, r, q, h => by
    simp only [List.flatMap_cons, List.append_assoc] at h
    obtain ⟨rfl, h2⟩ := quoteB_inj h
    obtain ⟨h3, h4⟩ := flat_inj h2
    exact ⟨by rw [h3], h4⟩
theorem quoteS_list (s : ByteArray) : (quoteS s).data.toList = 34 :: (s.data.toList.flatMap quoteB ++ [34]) := by unfold quoteS quoteL; simp
theorem quoteS_inj {s t : ByteArray} (h : (quoteS s).data.toList = (quoteS t).data.toList) : s = t := by
  rw [quoteS_list, quoteS_list] at h
  injection h with _ h
  have := (flat_inj h).1
  exact ByteArray.ext (Array.ext' this)
theorem unquote_quote (s : ByteArray) : unquote (quoteS s).data.toList = some s := by
  unfold unquote
  have h0 : ∃ t : ByteArray, (quoteS t).data.toList = (quoteS s).data.toList := ⟨s, rfl⟩
  rw [dif_pos h0]
  exact congrArg some (quoteS_inj h0.choose_spec)

end Go.Proofs.Ytpblhonnknmjjaa

/- Numbers are read back from their texts: plain law of both TextNums. -/
namespace Go.Proofs.Ytpblhonnknmjjaa
open Go.RowKit
set_option linter.unusedVariables false
set_option linter.unusedSimpArgs false

theorem textNum_some {l : List UInt8} {n : Int} : textNum l = some n ↔ In63 n ∧ numL n = l := by
  constructor
  · intro h
    unfold textNum at h
    split at h
    · rename_i h0
      injection h with h
      rw [← h]
      exact h0.choose_spec
    · cases h
  · rintro ⟨h1, rfl⟩
    exact textNum_num h1
/-- Where the digits begin. -/
def frm (l : List UInt8) : Nat := if l.head? = some 45 then 1 else 0
def valP (l : List UInt8) : Nat := l.foldl (fun a b => 10 * a + digVal b) 0
/-- The number behind k bytes. -/
def pv (l : List UInt8) (k : Nat) : Nat := valP ((l.drop (frm l)).take (k - frm l))
theorem valP_snoc (l : List UInt8) (b : UInt8) : valP (l ++ [b]) = 10 * valP l + digVal b := by unfold valP; rw [List.foldl_append]; rfl
theorem valP_rev : ∀ l : List UInt8, valP l.reverse = revVal l
  | [] => rfl
  | b :: l => by rw [List.reverse_cons, valP_snoc, valP_rev l]; show _ = digVal b + 10 * revVal l; omega
theorem revVal_drop : ∀ (l : List UInt8) (j : Nat), 10 ^ j * revVal (l.drop j) ≤ revVal l
  | l, 0 => by simp
  | [], j + 1 => by simp [revVal]
  | b :: l, j + 1 => by
    have := revVal_drop l j
    rw [List.drop_succ_cons, Nat.pow_succ]
    show _ ≤ digVal b + 10 * revVal l
    have e : 10 ^ j * 10 * revVal (l.drop j) = 10 * (10 ^ j * revVal (l.drop j)) := by rw [Nat.mul_comm (10 ^ j) 10, Nat.mul_assoc]
    omega
theorem pv_zero {l : List UInt8} {k : Nat} (h : k ≤ frm l) : pv l k = 0 := by unfold pv; rw [show k - frm l = 0 by omega]; rfl
theorem pv_step {l : List UInt8} {k : Nat} (h : frm l ≤ k) (hk : k < l.length) : pv l (k + 1) = 10 * pv l k + digVal l[k] := by
  unfold pv
  have e : k + 1 - frm l = (k - frm l) + 1 := by omega
  have h1 : (l.drop (frm l))[k - frm l]? = some l[k] := by rw [List.getElem?_drop, show frm l + (k - frm l) = k by omega, List.getElem?_eq_getElem hk]
  rw [e, List.take_add_one, h1]
  exact valP_snoc _ _
theorem numL_split {n : Int} (h : In63 n) : frm (numL n) = (if n < 0 then 1 else 0) ∧ (numL n).drop (frm (numL n)) = (revd n.natAbs).reverse := by
  rw [numL_eq h]
  by_cases h0 : n < 0
  · rw [if_pos h0, if_pos h0]
    refine ⟨rfl, rfl⟩
  · rw [if_neg h0, if_neg h0]
    have hf : frm (revd n.natAbs).reverse = 0 := by
      unfold frm
      rw [if_neg]
      intro e
      cases hl : (revd n.natAbs).reverse with
      | nil => rw [hl] at e; cases e
      | cons b m =>
        rw [hl] at e
        obtain rfl : b = 45 := by simpa using e
        have := revd_digits _ _ (Nat.le_refl _) 45 (show (45 : UInt8) ∈ revd n.natAbs by rw [← List.mem_reverse, hl]; simp)
        simp at this
    rw [hf]
    exact ⟨rfl, rfl⟩
theorem natAbs_63 {n : Int} (h : In63 n) : n.natAbs ≤ 4611686018427387904 := by unfold In63 at h; omega
theorem tn_len {l : List UInt8} {n : Int} (h : textNum l = some n) : 1 ≤ l.length ∧ l.length ≤ 20 := by
  obtain ⟨h1, rfl⟩ := textNum_some.1 h
  have hr := revd_len 18 n.natAbs (by have := natAbs_63 h1; omega)
  rw [numL_eq h1]
  have h2 : 0 < (revd n.natAbs).length := List.length_pos_iff.2 (revd_ne _)
  split <;> simp <;> omega
theorem tn_dig {l : List UInt8} {n : Int} (h : textNum l = some n) {k : Nat} (hk : k < l.length) (hf : frm l ≤ k) : 48 ≤ l[k].toNat ∧ l[k].toNat ≤ 57 := by
  obtain ⟨h1, rfl⟩ := textNum_some.1 h
  obtain ⟨h2, h3⟩ := numL_split h1
  have h4 : (numL n)[k] ∈ (numL n).drop (frm (numL n)) := by
    have : ((numL n).drop (frm (numL n)))[k - frm (numL n)]? = some (numL n)[k] := by rw [List.getElem?_drop, show frm (numL n) + (k - frm (numL n)) = k by omega, List.getElem?_eq_getElem hk]
    exact List.mem_of_getElem? this
  rw [h3] at h4
  exact revd_digits _ _ (Nat.le_refl _) _ (by simpa using h4)
theorem tn_small {l : List UInt8} {n : Int} (h : textNum l = some n) {k : Nat} (hk : k < l.length) : pv l k ≤ 500000000000000000 := by
  obtain ⟨h1, rfl⟩ := textNum_some.1 h
  obtain ⟨h2, h3⟩ := numL_split h1
  have hN := natAbs_63 h1
  by_cases hf : k ≤ frm (numL n)
  · rw [pv_zero hf]; omega
  have hl : (revd n.natAbs).length = (numL n).length - frm (numL n) := by
    have := congrArg List.length h3
    simpa using this.symm
  unfold pv
  rw [h3]
  have e : (revd n.natAbs).reverse.take (k - frm (numL n)) = ((revd n.natAbs).drop ((revd n.natAbs).length - (k - frm (numL n)))).reverse := by
    rw [List.reverse_drop, show (revd n.natAbs).length - ((revd n.natAbs).length - (k - frm (numL n))) = k - frm (numL n) by omega]
  rw [e, valP_rev]
  obtain ⟨j, hj⟩ : ∃ j, (revd n.natAbs).length - (k - frm (numL n)) = j + 1 := ⟨(revd n.natAbs).length - (k - frm (numL n)) - 1, by omega⟩
  rw [hj]
  have h5 := revVal_drop (revd n.natAbs) (j + 1)
  rw [revVal_revd, Nat.pow_succ] at h5
  have h6 : 1 ≤ 10 ^ j := Nat.one_le_pow _ _ (by omega)
  have h7 : 10 * revVal ((revd n.natAbs).drop (j + 1)) ≤ 10 ^ j * 10 * revVal ((revd n.natAbs).drop (j + 1)) := Nat.mul_le_mul_right _ (by omega)
  omega
theorem tn_val {l : List UInt8} {n : Int} (h : textNum l = some n) : (if frm l = 1 then -(pv l l.length : Int) else (pv l l.length : Int)) = n := by
  obtain ⟨h1, rfl⟩ := textNum_some.1 h
  obtain ⟨h2, h3⟩ := numL_split h1
  have hp : pv (numL n) (numL n).length = n.natAbs := by
    unfold pv
    rw [List.take_of_length_le (by simp), h3, valP_rev, revVal_revd]
  rw [hp, h2]
  by_cases h0 : n < 0
  · rw [if_pos h0, if_pos rfl]; omega
  · rw [if_neg h0, if_neg (by decide)]; omega
/-- Behind the last digit: the number's text is compared. -/
theorem tn_end {s : ByteArray} (h0 : 0 < s.size) {z : Int} (hz : z = if frm s.data.toList = 1 then -(pv s.data.toList s.size : Int) else (pv s.data.toList s.size : Int)) :
    ((numText z).toList == s.toList) = true ∧ textNum s.data.toList = some z ∨ ((numText z).toList == s.toList) = false ∧ textNum s.data.toList = none := by
  cases e : ((numText z).toList == s.toList) with
  | true =>
    refine .inl ⟨rfl, textNum_some.2 ⟨?_, ?_⟩⟩
    · have e1 : numText z = s := (toList_eq _ _).1 (eq_of_beq e)
      unfold numText at e1
      split at e1
      · rename_i h; unfold In63; omega
      · rw [← e1] at h0; exact absurd h0 (by decide)
    · have e1 : numText z = s := (toList_eq _ _).1 (eq_of_beq e)
      unfold numL; rw [e1]
  | false =>
    refine .inr ⟨rfl, ?_⟩
    cases ht : textNum s.data.toList with
    | none => rfl
    | some n =>
      exfalso
      have h1 := tn_val ht
      rw [show s.data.toList.length = s.size from rfl, ← hz] at h1
      obtain ⟨h2, h3⟩ := textNum_some.1 ht
      rw [← h1] at h3
      have : numText z = s := ByteArray.ext (Array.ext' h3)
      rw [this] at e
      simp at e
def tnV : Option Int → Value
  | some n => .tuple #[.int .i64 n, .bool true]
  | none => .tuple #[.int .i64 0, .bool false]
end Go.Proofs.Ytpblhonnknmjjaa
