/- Parts of the proof, merged: RiS, Fl2, TdI, TxLaw. -/
import Derived.Test.YtpblhonnknmjjaaFd025
/- How much a value holds that the program's reader read: plain law. -/
namespace Go.Proofs.Ytpblhonnknmjjaa
open Go.RowKit
set_option linter.unusedVariables false
set_option linter.unusedSimpArgs false

theorem mT_same (F : Nat) (a k : PxT) {x y : Nat} (ha : ∀ F, mT F a ≤ x) (hk : ∀ F, mT F k ≤ y) : mT F (.mk a.kind a.n a.s [k]) ≤ 1 + x + y := by
  have h1 := ha 1
  have h2 := mT_one F a.s k hk
  have h3 : 1 + a.s.size ≤ mT 1 a := by simp only [mT]; omega
  cases F with
  | zero => simp [mT]
  | succ F =>
    have h4 : mT (F + 1) (.mk a.kind a.n a.s [k]) = mT (F + 1) (tCon1 a.s k) := rfl
    omega
theorem insideI_small {rd : Rd} (ih : ∀ l t r, rd l = some (t, r) → Small l r t) {l : List UInt8} {t : PxT} {r : List UInt8} (h : insideI rd l = some (t, r)) : Small (40 :: l) r t := by
  unfold insideI at h
  cases h1 : rd l with
  | none => rw [h1] at h; cases h
  | some p =>
    obtain ⟨a, r1⟩ := p
    rw [h1] at h
    dsimp only at h
    obtain ⟨a1, a2⟩ := ih l a r1 h1
    split at h
    · rename_i hc
      have hl := isAt_len hc
      have e4 : kColons.length = 4 := rfl
      cases h2 : rd (r1.drop 4) with
      | none => rw [h2] at h; cases h
      | some p =>
        obtain ⟨b, r2⟩ := p
        rw [h2] at h
        dsimp only at h
        obtain ⟨b1, b2⟩ := ih _ b r2 h2
        rw [List.length_drop] at b1 b2
        split at h
        · rename_i h41
          have h5 := isAt_len h41
          rw [List.length_singleton] at h5
          injection h with h; injection h with e1 e2
          subst e1 e2
          unfold Small
          rw [List.length_drop, List.length_cons]
          refine ⟨by omega, fun F => ?_⟩
          have := mT_cons F a b a2 b2
          omega
        · cases h
    · split at h
      · rename_i hc
        have hl := isAt_len hc
        have e4 : kComma.length = 2 := rfl
        cases h2 : rd (r1.drop 2) with
        | none => rw [h2] at h; cases h
        | some p =>
          obtain ⟨b, r2⟩ := p
          rw [h2] at h
          dsimp only at h
          obtain ⟨b1, b2⟩ := ih _ b r2 h2
          rw [List.length_drop] at b1 b2
          split at h
          · rename_i h41
            have h5 := isAt_len h41
            rw [List.length_singleton] at h5
            injection h with h; injection h with e1 e2
            subst e1 e2
            unfold Small
            rw [List.length_drop, List.length_cons]
            refine ⟨by omega, fun F => ?_⟩
            have := mT_two F a b a2 b2
            omega
          · cases h
      · split at h
        · rename_i hc
          simp only [Bool.and_eq_true] at hc
          have hl := isAt_len hc.2
          rw [List.length_singleton] at hl
          cases h2 : rd (r1.drop 1) with
          | none => rw [h2] at h; cases h
          | some p =>
            obtain ⟨b, r2⟩ := p
            rw [h2] at h
            dsimp only at h
            obtain ⟨b1, b2⟩ := ih _ b r2 h2
            rw [List.length_drop] at b1 b2
            split at h
            · rename_i h41
              have h5 := isAt_len h41
              rw [List.length_singleton] at h5
              injection h with h; injection h with e1 e2
              subst e1 e2
              unfold Small
              rw [List.length_drop, List.length_cons]
              refine ⟨by omega, fun F => ?_⟩
              have := mT_same F a b a2 b2
              omega
            · cases h
        · cases h
theorem tw_len (P : UInt8 → Bool) (l : List UInt8) : (l.takeWhile P).length ≤ l.length := (List.takeWhile_prefix P).length_le
theorem readI_small : ∀ (f : Nat) (l : List UInt8) (t : PxT) (r : List UInt8), readI f l = some (t, r) → Small l r t
  | 0, l, t, r, h => by simp [readI] at h
  | f + 1, [], t, r, h => by simp [readI] at h
  | f + 1, b :: l, t, r, h => by
    unfold readI at h
    dsimp only at h
    split at h
    · injection h with h; injection h with e1 e2
      subst e1 e2
      refine ⟨by rw [List.length_drop]; omega, fun F => ?_⟩
      have := mT_leaf F 6 0 ByteArray.empty
      have e : ByteArray.empty.size = 0 := rfl
      show mT F (.mk 6 0 ByteArray.empty []) ≤ _
      omega
    · split at h
      · rename_i hc
        have hl := isAt_len hc
        injection h with h; injection h with e1 e2
        subst e1 e2
        unfold Small
        rw [List.length_drop]
        refine ⟨by omega, fun F => ?_⟩
        have := mT_leaf F 4 0 ⟨#[91, 93]⟩
        have e : (⟨#[91, 93]⟩ : ByteArray).size = 2 := rfl
        have e2 : ([91, 93] : List UInt8).length = 2 := rfl
        show mT F (.mk 4 0 ⟨#[91, 93]⟩ []) ≤ _
        omega
      · split at h
        · rename_i hb
          subst hb
          exact insideI_small (readI_small f) h
        · split at h
          · unfold strR at h
            cases hs : scanQ l with
            | none => rw [hs] at h; cases h
            | some q =>
              obtain ⟨p, r1⟩ := q
              rw [hs] at h
              dsimp only at h
              have hl := congrArg List.length (scanQ_len hs)
              rw [List.length_append] at hl
              cases hu : unquote (34 :: p) with
              | none => rw [hu] at h; cases h
              | some s =>
                rw [hu] at h
                have hz := unquote_len hu
                rw [List.length_cons] at hz
                injection h with h; injection h with e1 e2
                subst e1 e2
                refine ⟨by rw [List.length_cons]; omega, fun F => ?_⟩
                have := mT_leaf F 2 0 s
                rw [List.length_cons]
                show mT F (.mk 2 0 s []) ≤ _
                omega
          · split at h
            · cases ht : textNum ((b :: l).takeWhile numB) with
              | none => rw [ht] at h; cases h
              | some n =>
                rw [ht] at h
                injection h with h; injection h with e1 e2
                subst e1 e2
                refine ⟨by rw [List.length_drop]; omega, fun F => ?_⟩
                have := mT_leaf F 3 n ByteArray.empty
                have e : ByteArray.empty.size = 0 := rfl
                show mT F (.mk 3 n ByteArray.empty []) ≤ _
                omega
            · split at h
              · cases h
              · injection h with h; injection h with e1 e2
                subst e1 e2
                have hw := tw_len wrdB (b :: l)
                unfold Small
                rw [List.length_drop]
                refine ⟨by omega, fun F => ?_⟩
                have := mT_leaf F 4 0 ⟨((b :: l).takeWhile wrdB).toArray⟩
                have e : (⟨((b :: l).takeWhile wrdB).toArray⟩ : ByteArray).size = ((b :: l).takeWhile wrdB).length := by show ((b :: l).takeWhile wrdB).toArray.size = _; simp
                show mT F (.mk 4 0 ⟨((b :: l).takeWhile wrdB).toArray⟩ []) ≤ _
                omega
end Go.Proofs.Ytpblhonnknmjjaa

/- The program's dataOf: a tree behind a pointer as a value. -/
namespace Go.Proofs.Ytpblhonnknmjjaa
open Go.RowKit
set_option linter.unusedVariables false
set_option linter.unusedSimpArgs false
attribute [local go_sem] Ext.cell

set_option maxRecDepth 100000 in
set_option maxHeartbeats 8000000 in
theorem dataOf_c (f : Nat) (t : PxT) (S : Nat → Prop) (pv : Value) (w : World) (h : PxR f S w pv t) (hsz : szT f t ≤ 16777216) :
    Calls Try.prog 30 #[pv] w fun e w' => ∃ (v : Value) (ps : List DRow), e = .returned (.agg #[v]) ∧ OwnD (fun q => q < w.heap.size) 44 w.heap.size w' v ps ∧ DisjK ps ∧ KO w.heap.size w' ps ∧ ps.map (·.1) = layT f 0 t ∧ Below w.heap.size w w' := by
  obtain ⟨iD, hi0, hz0, hz1, hz2⟩ := info_parts info_DNode; have ID := Lib.hid hi0; have ID0 := Lib.hid hz0; have ID1 := Lib.hid hz1; have ID2 := Lib.hid hz2; clear hi0 hz0 hz1 hz2
  obtain ⟨pb, rfl⟩ := h.form
  replace h := Lib.hid h
  go_enter Try.func30, Try.ntmps30
  go_upto_region 1 with fail
  have E : RowAt (w.alloc (.cells #[.slice none 0 0] 25)) (w.heap.size) 0 [.slice none 0 0] := RowAt.box w #[.slice none 0 0] 25
  have EW : Wr (w.alloc (.cells #[.slice none 0 0] 25)) (w.heap.size) 0 1 := Wr.box w #[.slice none 0 0] 25
  have hw : Below w.heap.size w (w.alloc (.cells #[.slice none 0 0] 25)) := by go_grown
  generalize (w.alloc (.cells #[.slice none 0 0] 25)) = w0 at *
  have hsE := World.block_lt_of_cell? _ _ E.box1; dsimp only at hsE
  have hP0 : PxR f (fun q => q < w0.heap.size) w0 (.pointer (some ⟨pb, 0, none⟩)) t := h.out.to (fun b _ h2 => hw.block b h2) fun b h1 h2 => Nat.lt_of_lt_of_le h2 hw.size
  have cF := flatPat_c f t _ (.slice none 0 0) _ [] w0.heap.size w0 hP0 (OwnD.nil _ _ _ _) List.Pairwise.nil (fun p hp => by cases hp) (Nat.le_refl _) (fun q hq => hq) (by simpa using hsz)
  replace cF := Lib.hid cF
  go_upto_region 2 with (go_at_call 60; (with_reducible refine (cF.out).mono ?_); rintro e w1 ⟨pv, ps, rfl, O1, D1, KO1, hps, hb1, K1⟩)
  have E1 := E.below hb1
  have EW1 := EW.below hb1
  obtain ⟨pa, pc, rfl⟩ := O1.form
  obtain ⟨n, hn⟩ : ∃ n, n = ps.length := ⟨_, rfl⟩
  rw [← hn] at O1 ⊢
  have hps : Hid (ps.map (·.1) = layT f 0 t) := by show _ = _; rw [hps]; rfl
  have hlen : n ≤ 16777216 := by
    have h1 := congrArg List.length hps.out
    rw [List.length_map] at h1
    have h2 := layT_le f 0 t
    omega
  have hz1 := hb1.size
  go_upto_region 3 with fail
  obtain ⟨w2, hW2⟩ : ∃ W, W = w1.alloc (.cells #[.slice none 0 0] 25) := ⟨_, rfl⟩
  rw [← hW2]
  have hb2 : Below w1.heap.size w1 w2 := by rw [hW2]; go_grown
  obtain ⟨bD, hbD⟩ : ∃ x, x = w1.heap.size := ⟨_, rfl⟩
  have N2 : RowAt w2 bD 0 [.slice none 0 0] := by rw [hW2, hbD]; exact RowAt.box w1 #[_] _
  have NW2 : Wr w2 bD 0 1 := by rw [hW2, hbD]; exact Wr.box w1 #[_] _
  have hz2 : bD < w2.heap.size := World.block_lt_of_cell? _ _ N2.box1
  have O2 : Hid (OwnD (fun q => (q = bD ∨ q < w0.heap.size) ∨ (Value.slice none 0 0).ownBlock = some q) 93 w0.heap.size w2 (.slice pa n pc) ps) := OwnD.below (O1.toA fun q hq ha => by rcases ha with (rfl | ha) | ha; omega; exact ha; cases ha) hb2 |> fun h => h
  have KO2 : Hid (KO w0.heap.size w2 ps) := KO1.below hb2
  have hB2 : Hid (Below w0.heap.size w0 w2) := hb1.trans (hb2.mono hz1)
  rw [← hbD]
  have hbD0 : w0.heap.size ≤ bD := by omega
  replace hbD := Lib.hid hbD
  replace hn := Lib.hid hn; replace D1 := Lib.hid D1; replace N2 := Lib.hid N2; replace NW2 := Lib.hid NW2
  clear O1 KO1 hW2 hb1 hb2 K1 E1 EW1 hP0 cF
  go_wp2_with fail
  go_loopw [16] (fun ii wr => ∃ (j : Nat) (dv : Value), j ≤ n ∧ ii = .int .i64 j ∧ Hid (RowAt wr bD 0 [dv]) ∧ Hid (Wr wr bD 0 1) ∧ Hid (OwnF 44 4 drow dwf w0.heap.size wr dv (ps.take j)) ∧ Hid (dv.ownBlock ≠ some bD) ∧ Hid (∀ q, (Value.slice pa n pc).ownBlock = some q → dv.ownBlock ≠ some q) ∧
      Hid (OwnD (fun q => (q = bD ∨ q < w0.heap.size) ∨ dv.ownBlock = some q) 93 w0.heap.size wr (.slice pa n pc) ps) ∧ Hid (KO w0.heap.size wr ps) ∧ Hid (Below w0.heap.size w0 wr)) (fun ii _ => n - (intOf ii).toNat)
  case atStart => exact ⟨0, _, by omega, rfl, N2, NW2, OwnF.empty, by show _ ≠ _; simp [Value.ownBlock], by show ∀ q, _ → _ ≠ _; intro q _; simp [Value.ownBlock], O2, KO2, hB2⟩
  case round =>
    clear N2 NW2 O2 KO2 hB2 hz2
    obtain ⟨j, dv, hj, rfl, N, NW, OD, hd1, hd2, OP, KP, hB⟩ := hrel
    obtain ⟨da, dc, rfl⟩ := OD.out.form
    have hlt : (ps.take j).length = j := by rw [List.length_take, ← hn.out]; omega
    rw [hlt] at N OD hd1 hd2 OP
    have n_0 := N.out.box1
    have hsN := World.block_lt_of_cell? _ _ n_0; dsimp only at hsN
    by_cases hjn : j < n
    · obtain ⟨p, hp⟩ : ∃ p, ps[j]? = some p := ⟨_, List.getElem?_eq_getElem (by have := hn.out; omega)⟩
      have hpm := List.mem_of_getElem? hp
      have hpw := OP.out.own.2 p hpm
      obtain ⟨gp, cp, hv, hg1, hg2, _, _, hR, _⟩ := own_cells OP.out.own.1 (show 0 < ps.length by have := hn.out; omega)
      have hv' : pa = some ⟨gp, 0, none⟩ := by injection hv
      subst hv'
      clear hv
      have hRow : RowAt wr gp (j * 4) (drow p) := fun i c hc => by
        have h := hR (j * 4 + i) c (flatD.get hp hc)
        rwa [Nat.zero_add] at h
      have hst : ps.take (j + 1) = ps.take j ++ [p] := take_snoc' hp
      have hown0 : wr.ownsRow w0.heap.size 44 4 (.slice da j dc) j (rowsOf drow (ps.take j)) := by have h := OD.out.1; rw [hlt] at h; exact h
      have hob := own_base hown0
      have hfz := NW.out.frz 0 (by omega)
      have hbz := hB.out.size
      obtain ⟨⟨kd, nn, s, ks⟩, ka, kc⟩ := p
      obtain ⟨m, hm⟩ : ∃ m, m = ks.length := ⟨_, rfl⟩
      have hdr : drow (⟨kd, nn, s, ks⟩, ka, kc) = [.int .i64 kd, .int .i64 nn, .string s, .slice ka m kc] := by rw [hm]; rfl
      rw [hdr] at hRow
      obtain ⟨e_0, e_1, e_2, e_3⟩ := hRow.cells4
      replace hown0 := Lib.hid hown0; replace hob := Lib.hid hob; replace hst := Lib.hid hst; replace hp := Lib.hid hp; replace hm := Lib.hid hm; replace hdr := Lib.hid hdr; replace hpw := Lib.hid hpw; replace hlt := Lib.hid hlt
      clear hR hRow n_0
      have n_0 := N.out.box1
      go_upto_region 6 with fail
      have hne2 : bD ≠ wr.heap.size := by omega
      go_upto_region 7 with ((at_builtin; refine wpList_append_lies _ rfl _ _ _ rfl (w0.heap.size) 44 iD _ 4 56 Try.underlying23 ID.out ID0.out ID1.out ID2.out rfl (by omega) (.slice da j dc) (j) (rowsOf drow (ps.take j)) rfl (own_below hown0.out (by go_grown)) ⟨wr.heap.size + 1, 0, none⟩ 1 1 [.int .i64 kd, .int .i64 nn, .string s, .slice ka m kc] rfl rfl (World.news_of_block (cs := #[.int .i64 kd, .int .i64 nn, .string s, .slice ka m kc]) (t := 44) (fr := (0, 0)) (heap_alloc_new' _ _ _ (by simp))) (by intro u hu; simp at hu; (first | (subst hu; rfl) | (rcases hu with rfl | rfl | rfl | rfl <;> rfl) | (rcases hu with rfl | rfl | rfl | rfl | rfl | rfl | rfl | rfl | rfl <;> rfl))) (by omega) (by unfold maxLen; omega) (by omega) (by simp; omega) _ rfl ?_; intro g2 cap2 w6 hown hgrow hat hlt2); have k6 := kept_of hgrow (w := wr) (by go_grown); have N6 := N.out.kept k6 (fun h => hd1.out h.symm); have NW6 := NW.out.kept k6 (fun h => hd1.out h.symm); have m_0 := N6.box1; have mf_0 := NW6.frz 0 (by omega))
      obtain ⟨w7, hW7⟩ : ∃ W, W = w6.setCell ⟨bD, 0, none⟩ (.slice (some ⟨g2, 0, none⟩) (j + 1) cap2) := ⟨_, rfl⟩
      rw [← hW7]
      have hz6 : wr.heap.size + 2 ≤ w6.heap.size := by have := hgrow.size; simpa using this
      have hz7 : w7.heap.size = w6.heap.size := by rw [hW7]; simp [World.setCell]
      have k7 : Kept (· = bD) w6 w7 := by rw [hW7]; exact Kept.set (S := (· = bD)) (p := ⟨bD, 0, none⟩) (Kept.refl _ _) rfl _
      have k67 : Kept (fun q => some q = (Value.slice da j dc).ownBlock ∨ q = bD) wr w7 := fun x h1 h2 => (k7 x (by omega) (fun e => h2 (.inr e))).trans (k6 x h1 fun e => h2 (.inl e))
      have N7 : Hid (RowAt w7 bD 0 [.slice (some ⟨g2, 0, none⟩) (j + 1) cap2]) := by rw [hW7]; exact RowAt.putAt (show RowAt w6 bD 0 [.slice da j dc] from N6) (j := 0) (by simp) _
      have NW7 : Hid (Wr w7 bD 0 1) := by rw [hW7]; exact Wr.set (show Wr w6 bD 0 1 from NW6) 0 _
      have hg2b : g2 ≠ bD := by
        rcases hat with h | h
        · exact fun e => hd1.out (e ▸ h)
        · simp at h; omega
      have hg2p : g2 ≠ gp := by
        rcases hat with h | h
        · exact fun e => hd2.out gp rfl (e ▸ h)
        · simp at h; omega
      have OD7 : Hid (OwnF 44 4 drow dwf w0.heap.size w7 (.slice (some ⟨g2, 0, none⟩) (j + 1) cap2) (ps.take (j + 1))) := by
        refine OwnF.kept (S := (· = bD)) ⟨?_, fun y hy => OP.out.own.2 y (List.mem_of_mem_take hy)⟩ k7 (fun x hx e => ?_)
        · rw [hst.out]
          simp only [List.length_append, hlt.out, List.length_singleton, rowsOf_append, rowsOf_one, hdr.out]
          exact hown
        · obtain rfl : g2 = x := by simpa [Value.ownBlock] using hx
          exact hg2b e
      have OP7 : Hid (OwnD (fun q => (q = bD ∨ q < w0.heap.size) ∨ (Value.slice (some ⟨g2, 0, none⟩) (j + 1) cap2).ownBlock = some q) 93 w0.heap.size w7 (.slice (some ⟨gp, 0, none⟩) n pc) ps) := by
        have h1 := OP.out.kept k67 (fun x hx ha hs => ha (by rcases hs with h | h; exact .inr h.symm; exact .inl (.inl h))) (by omega)
        refine ⟨h1.own, fun p hp => ?_, fun x hx ha => ?_⟩
        · obtain ⟨h2, h3⟩ := h1.kids p hp
          have h4 := (OP.out.kids p hp).2
          refine ⟨h2, fun x hx => ⟨⟨(h3 x hx).1.1, fun ha => ?_⟩, (h3 x hx).2⟩⟩
          rcases ha with ha | ha
          · exact (h3 x hx).1.2 (.inl ha)
          · obtain rfl : g2 = x := by simpa [Value.ownBlock] using ha
            rcases hat with h | h
            · exact (h3 g2 hx).1.2 (.inr h)
            · have := (h4 g2 hx).2; simp at h; omega
        · obtain rfl : gp = x := by simpa [Value.ownBlock] using hx
          rcases ha with ha | ha
          · exact OP.out.out gp rfl (.inl ha)
          · exact hg2p (by simpa [Value.ownBlock] using ha)
      have KP7 : Hid (KO w0.heap.size w7 ps) := KP.out.kept OP.out k67 (fun x hx ha _ hs => ha (by rcases hs with h | h; exact .inr h.symm; exact .inl (.inl h)))
      have hB7 : Hid (Below w0.heap.size w0 w7) := by
        rw [hW7]
        exact (below_grown2 (wr := wr) (w := w0) (base := w0.heap.size) hgrow (by go_grown) hB.out hbz hown0.out).setCell (p := ⟨bD, 0, none⟩) hbD0 _
      have e1 : Hid ((Value.slice (some ⟨g2, 0, none⟩) (j + 1) cap2).ownBlock ≠ some bD) := by show _ ≠ _; simpa [Value.ownBlock] using hg2b
      have e2 : Hid (∀ q, (Value.slice (some ⟨gp, 0, none⟩) n pc).ownBlock = some q → (Value.slice (some ⟨g2, 0, none⟩) (j + 1) cap2).ownBlock ≠ some q) := by
        show ∀ q, _ → _ ≠ _
        intro q hq h
        obtain rfl : gp = q := by simpa [Value.ownBlock] using hq
        exact hg2p (by simpa [Value.ownBlock] using h)
      clear hgrow hown hat hlt2 k6 k7 k67 N6 NW6 m_0 mf_0 hW7 hz6 hz7 e_0 e_1 e_2 e_3 n_0 hfz
      go_wp2_with fail
      go_roundw
      case rel => exact ⟨j + 1, _, by omega, by go_num, N7, NW7, OD7, e1, e2, OP7, KP7, hB7⟩
      case measure => simp [intOf]; omega
    · obtain rfl : j = n := by omega
      have hfull : ps.take j = ps := List.take_of_length_le (by have := hn.out; omega)
      rw [hfull] at OD hlt
      have E9 := E.below hB.out
      have EW9 := EW.below hB.out
      have e_0 := E9.box1
      have ef_0 := EW9.frz 0 (by omega)
      have hsE9 := World.block_lt_of_cell? _ _ e_0; dsimp only at hsE9
      have hfin : ∀ W, W = wr.setCell ⟨w.heap.size, 0, none⟩ (.slice da j dc) → ∃ (v : Value) (ps : List DRow), (Ending.returned (.agg #[.slice da j dc]) = .returned (.agg #[v])) ∧ OwnD (fun q => q < w.heap.size) 44 w.heap.size W v ps ∧ DisjK ps ∧ KO w.heap.size W ps ∧ ps.map (·.1) = layT f 0 t ∧ Below w.heap.size w W := fun W hW => by
        have hzW : W.heap.size = wr.heap.size := by rw [hW]; simp [World.setCell]
        have k1 : Kept (· = w.heap.size) wr W := by rw [hW]; exact Kept.set (S := (· = w.heap.size)) (p := ⟨w.heap.size, 0, none⟩) (Kept.refl _ _) rfl _
        have h1 := OD.out.kept k1 (fun x hx e => by have := (OD.out.base x hx).1; omega)
        refine ⟨_, ps, rfl, ⟨⟨own_lo h1.1 (by omega), h1.2⟩, fun p hp => ?_, fun c hc h => by have := (OD.out.base c hc).1; have := hw.size; omega⟩, D1.out, fun p hp => ((KP.out.kept OP.out k1 (fun g _ ha _ e => ha (.inl (.inr (by omega))))) p hp).mono (by omega), hps.out, ?_⟩
        · obtain ⟨h2, h3⟩ := OP.out.kids p hp
          have hne : ∀ c, (kidsV p).ownBlock = some c → c ≠ w.heap.size := fun c hc e => (h3 c hc).1.2 (.inl (.inr (by omega)))
          exact ⟨(sl_kept flatInt h2 k1 fun c hc e => hne c hc e).mono IntR.good (by omega), fun c hc => ⟨⟨fun h => (h3 c hc).1.2 (.inr h), fun h => (h3 c hc).1.2 (.inl (.inr (by have := hw.size; omega)))⟩, by rw [hzW]; exact (h3 c hc).2⟩⟩
        · rw [hW]; exact (hw.trans (hB.out.mono hw.size)).setCell (p := ⟨w.heap.size, 0, none⟩) (Nat.le_refl _) _
      replace hfin := Lib.hid hfin
      have n_0' := n_0
      go_wp2_with fail
      have p_0 := cell_setCell_eq wr w.heap.size 0 (.slice da j dc) e_0
      refine bodyPost_ret (v := .agg #[.slice da j dc]) (by simp [results, Try.results30, go_sem, p_0]) rfl ?_
      exact hfin.out _ rfl
end Go.Proofs.Ytpblhonnknmjjaa

/- The program's TextData. -/
namespace Go.Proofs.Ytpblhonnknmjjaa
open Go.RowKit
set_option linter.unusedVariables false
set_option linter.unusedSimpArgs false
attribute [local go_sem] Ext.cell

/-- What impl.TextData hands back. -/
def TiPost (s : ByteArray) (w : World) (e : Ending) (w' : World) : Prop :=
  (∃ (d : GData) (v : Value) (ps : List DRow), textDataP s = some d ∧ e = .returned (.tuple #[.agg #[v], .bool true]) ∧ OwnD (fun _ => False) 44 w.heap.size w' v ps ∧ DisjK ps ∧ KO w.heap.size w' ps ∧ ps.map (·.1) = d.nodes ∧ Below w.heap.size w w') ∨
  (textDataP s = none ∧ e = .returned (.tuple #[.agg #[.slice none 0 0], .bool false]) ∧ Below w.heap.size w w')
theorem ti_none {s : ByteArray} (h : readI 101 (fromB s 0) = none) : textDataP s = none := by rw [← text_agree]; unfold textDataI; rw [h]
theorem ti_more {s : ByteArray} {t : PxT} {p : Nat} (h : readI 101 (fromB s 0) = some (t, fromB s p)) (hp : p < s.size) : textDataP s = none := by
  rw [← text_agree]; unfold textDataI; rw [h, fromB_cons hp]
theorem ti_all {s : ByteArray} {t : PxT} {p : Nat} (h : readI 101 (fromB s 0) = some (t, fromB s p)) (hp : s.size ≤ p) : textDataP s = if dataText ⟨layT 203 0 t⟩ = s then some ⟨layT 203 0 t⟩ else none := by
  rw [← text_agree]; unfold textDataI; rw [h, fromB_nil hp]
set_option maxRecDepth 100000 in
set_option maxHeartbeats 16000000 in
theorem impl_TextData_c (s : ByteArray) (hs : s.size ≤ 1048576) (w : World) : Calls Try.prog 13 #[.string s] w (TiPost s w) := by
  go_enter Try.func13, Try.ntmps13
  go_upto_region 1 with fail
  have E : RowAt (w.alloc (.cells #[.slice none 0 0] 25)) (w.heap.size) 0 [.slice none 0 0] := RowAt.box w #[.slice none 0 0] 25
  have EW : Wr (w.alloc (.cells #[.slice none 0 0] 25)) (w.heap.size) 0 1 := Wr.box w #[.slice none 0 0] 25
  have hw : Below w.heap.size w (w.alloc (.cells #[.slice none 0 0] 25)) := by go_grown
  generalize (w.alloc (.cells #[.slice none 0 0] 25)) = w0 at *
  have hsE := World.block_lt_of_cell? _ _ E.box1; dsimp only at hsE
  have ek : ∀ W, RdF w0.heap.size w0 W → RowAt W w.heap.size 0 [.slice none 0 0] ∧ Wr W w.heap.size 0 1 := fun W D => ⟨E.kept D.kept (by omega), EW.kept D.kept (by omega)⟩
  replace ek := Lib.hid ek
  clear E EW
  go_upto_region 2 with fail
  obtain ⟨w1, hW1⟩ : ∃ W, W = w0.alloc (.cells #[.string s, .int .i64 0] 53) := ⟨_, rfl⟩
  rw [← hW1]
  have hb1' : Below w0.heap.size w0 w1 := by rw [hW1]; go_grown
  have R1 : RdI w1 w0.heap.size s 0 := by rw [hW1]; exact ⟨RowAt.box w0 #[_, _] _, Wr.box w0 #[_, _] _⟩
  have F1 : RdF w0.heap.size w0 w1 := RdF.of hb1' (Nat.le_refl _)
  have cR := value_c s w0.heap.size hs 101 0 (by omega) (by omega) 0 w1 (by omega) R1
  have hz1 : w0.heap.size < w1.heap.size := R1.lt
  replace cR := Lib.hid cR
  clear hW1 hb1'
  go_upto_region 3 with (go_at_call 29; (with_reducible refine (cR.out).mono ?_); rintro e w2 hE; rcases hE with ⟨q, p, t, rfl, T2, WQ2, R2, hp, hrd, F2⟩ | ⟨v2, p, rfl, R2, hp, hrd, F2⟩)
  all_goals
    have F2 := F1.trans F2
    obtain ⟨r_0, r_1⟩ := R2.row.box2
    have hbl2 := R2.lt
  · by_cases hpe : p = s.size
    · subst hpe
      have htd := ti_all hrd (Nat.le_refl _)
      have hsm := (readI_small 101 _ t _ hrd).2
      have hl0 : (fromB s 0).length = s.size := rfl
      have hmT : ∀ F, mT F t ≤ 2097153 := fun F => by have := hsm F; omega
      have cD := dataOf_c 203 t _ _ w2 T2 (by have := szT_mT 203 t; have := hmT 203; omega)
      have d1 : ((s.size : Int) != (s.size : Int)) = false := by simp
      replace htd := Lib.hid htd; replace hrd := Lib.hid hrd; replace hmT := Lib.hid hmT; replace cD := Lib.hid cD
      clear hsm T2
      go_upto_region 6 with (go_at_call 30; (with_reducible refine (cD.out).mono ?_); rintro e w3 ⟨v, ps, rfl, O3, D3, KO3, hps, hb3⟩; obtain ⟨va, vc, rfl⟩ := O3.form)
      have hz2 := F2.size
      obtain ⟨w4, hW4⟩ : ∃ W, W = w3.alloc (.cells #[.slice va ps.length vc] 25) := ⟨_, rfl⟩
      rw [← hW4]
      have hb4 : Below w3.heap.size w3 w4 := by rw [hW4]; go_grown
      have X4 : RowAt w4 w3.heap.size 0 [.slice va ps.length vc] := by rw [hW4]; exact RowAt.box w3 #[_] _
      have O4 := O3.below hb4
      have hz3 := hb3.size
      have F4 := (F2.trans (RdF.of hb3 (by omega))).trans (RdF.of hb4 (by omega))
      have hbk : (GData.mk (layT 203 0 t)).bulk ≤ 16777216 := by
        have h := layT_bulk 203 0 t
        have h2 := hmT.out 203
        show bulkS GDNode.bulk (layT 203 0 t) ≤ _
        omega
      have S4 : Sl GDNode.R 4 w2.heap.size w4 (.slice va ps.length vc) (layT 203 0 t) := by have h := O4.sl; rw [hps] at h; exact h
      have cT := impl_DataText_cM ⟨layT 203 0 t⟩ [.slice va ps.length vc] w2.heap.size hbk w4 ⟨_, rfl, trivial, S4⟩
      replace cT := Lib.hid cT; replace O4 := Lib.hid O4; replace D3 := Lib.hid D3; replace hps := Lib.hid hps
      clear hW4
      obtain ⟨bD, hbD⟩ : ∃ x, x = w3.heap.size := ⟨_, rfl⟩
      rw [← hbD] at X4 ⊢
      have hbD2 : w0.heap.size < bD := by omega
      have hlen : ∀ W, Below w4.heap.size w4 W → OwnD (fun q => q < w2.heap.size) 44 w2.heap.size W (.slice va ps.length vc) ps := fun W h => O4.out.below h
      have hko : ∀ W, Below w4.heap.size w4 W → KO w2.heap.size W ps := fun W h => (KO3.below hb4).below h
      replace hko := Lib.hid hko; replace hlen := Lib.hid hlen; replace hbD := Lib.hid hbD
      clear S4 O4 O3 KO3 hb3 hb4
      have x_0 := X4.box1
      have hsX := World.block_lt_of_cell? _ _ x_0; dsimp only at hsX
      generalize hnn : ps.length = n at *
      replace hnn := Lib.hid hnn
      cases hq : ((dataText ⟨layT 203 0 t⟩).toList == s.toList)
      · have hn : textDataP s = none := by rw [htd.out]; exact if_neg fun e => by rw [e] at hq; simp at hq
        generalize dataText ⟨layT 203 0 t⟩ = tx at *
        replace hn := Lib.hid hn
        go_wp2_with (go_at_call 10; (with_reducible refine (cT.out).mono ?_); rintro e w7 ⟨rfl, hb7⟩; have F7 := F4.trans (RdF.of hb7 (by have := F4.size; omega)); obtain ⟨E7, EW7⟩ := ek.out _ F7; have e_0 := E7.box1; have ef_0 := EW7.frz 0 (by omega); have d_1 := (X4.below hb7).box1; have hsE7 := World.block_lt_of_cell? _ _ e_0; dsimp only at hsE7)
        have p_0 := cell_setCell_eq w7 w.heap.size 0 (.slice none 0 0) e_0
        refine bodyPost_ret (v := .tuple #[.agg #[.slice none 0 0], .bool false]) (by simp [results, Try.results13, go_sem, p_0]) rfl ?_
        exact .inr ⟨hn.out, rfl, (hw.trans (F7.below.mono (by omega))).setCell (p := ⟨w.heap.size, 0, none⟩) (Nat.le_refl _) _⟩
      · have hn : textDataP s = some ⟨layT 203 0 t⟩ := by rw [htd.out]; exact if_pos ((toList_eq _ _).1 (eq_of_beq hq))
        generalize dataText ⟨layT 203 0 t⟩ = tx at *
        replace hn := Lib.hid hn
        go_wp2_with (go_at_call 10; (with_reducible refine (cT.out).mono ?_); rintro e w7 ⟨rfl, hb7⟩; have F7 := F4.trans (RdF.of hb7 (by have := F4.size; omega)); obtain ⟨E7, EW7⟩ := ek.out _ F7; have e_0 := E7.box1; have ef_0 := EW7.frz 0 (by omega); have d_1 := (X4.below hb7).box1; have hsE7 := World.block_lt_of_cell? _ _ e_0; dsimp only at hsE7; have hO7 := hlen.out w7 hb7; replace hO7 := Lib.hid hO7)
        have p_0 := cell_setCell_eq w7 w.heap.size 0 (.slice va n vc) e_0
        refine bodyPost_ret (v := .tuple #[.agg #[.slice va n vc], .bool true]) (by simp [results, Try.results13, go_sem, p_0]) rfl ?_
        have hz0 : w.heap.size < w2.heap.size := by omega
        have h8 := hO7.out.kept (S := (· = w.heap.size)) (w' := w7.setCell ⟨w.heap.size, 0, none⟩ (.slice va n vc)) (Kept.set (S := (· = w.heap.size)) (p := ⟨w.heap.size, 0, none⟩) (Kept.refl _ _) rfl _) (fun g _ hA e => hA (by omega)) (by simp [World.setCell])
        refine .inl ⟨⟨layT 203 0 t⟩, .slice va n vc, ps, hn.out, rfl, ⟨⟨own_lo h8.own.1 (by omega), h8.own.2⟩, fun p hp => ⟨(h8.kids p hp).1.mono IntR.good (by omega), fun c hc => ⟨⟨((h8.kids p hp).2 c hc).1.1, fun h => h⟩, ((h8.kids p hp).2 c hc).2⟩⟩, fun _ _ h => h⟩, D3.out, fun p hp => (((hko.out w7 hb7).kept hO7.out (S := (· = w.heap.size)) (Kept.set (S := (· = w.heap.size)) (p := ⟨w.heap.size, 0, none⟩) (Kept.refl _ _) rfl _) (fun g _ hA _ e => hA (by omega))) p hp).mono (by omega), hps.out, (hw.trans (F7.below.mono (by omega))).setCell (p := ⟨w.heap.size, 0, none⟩) (Nat.le_refl _) _⟩
    · have hn := ti_more hrd (by omega)
      have d1 : ((p : Int) != (s.size : Int)) = true := by rw [bne_iff_ne]; omega
      replace hn := Lib.hid hn; replace hrd := Lib.hid hrd
      obtain ⟨E4, EW4⟩ := ek.out _ F2
      have e_0 := E4.box1
      have ef_0 := EW4.frz 0 (by omega)
      have hsE4 := World.block_lt_of_cell? _ _ e_0; dsimp only at hsE4
      have p_0 := cell_setCell_eq w2 w.heap.size 0 (.slice none 0 0) e_0
      go_wp2_with fail
      refine bodyPost_ret (v := .tuple #[.agg #[.slice none 0 0], .bool false]) (by simp [results, Try.results13, go_sem, p_0]) rfl ?_
      exact .inr ⟨hn.out, rfl, (hw.trans (F2.below.mono (by omega))).setCell (p := ⟨w.heap.size, 0, none⟩) (Nat.le_refl _) _⟩
  · have hn := ti_none hrd
    replace hn := Lib.hid hn; replace hrd := Lib.hid hrd
    obtain ⟨E4, EW4⟩ := ek.out _ F2
    have e_0 := E4.box1
    have ef_0 := EW4.frz 0 (by omega)
    have hsE4 := World.block_lt_of_cell? _ _ e_0; dsimp only at hsE4
    have p_0 := cell_setCell_eq w2 w.heap.size 0 (.slice none 0 0) e_0
    go_wp2_with fail
    refine bodyPost_ret (v := .tuple #[.agg #[.slice none 0 0], .bool false]) (by simp [results, Try.results13, go_sem, p_0]) rfl ?_
    exact .inr ⟨hn.out, rfl, (hw.trans (F2.below.mono (by omega))).setCell (p := ⟨w.heap.size, 0, none⟩) (Nat.le_refl _) _⟩
end Go.Proofs.Ytpblhonnknmjjaa

/- The law FnExactTextData: the program's TextData and the reference's give the same; what the program returns is fresh at each call. -/
namespace Go.Proofs.Ytpblhonnknmjjaa
open Go.RowKit
set_option linter.unusedVariables false
set_option linter.unusedSimpArgs false
attribute [local go_sem] Ext.cell

theorem kS_bulk (k : Nat) : ∀ ps : List DRow, (kS k ps : Int) ≤ k + 3 * bulkS GDNode.bulk (ps.map (·.1))
  | [] => by simp [kS, bulkS]
  | p :: ps => by
    have h := kS_bulk k ps
    have h1 := p.1.bulk_nonneg
    simp only [kS, bulkS, List.map_cons, List.sum_cons, List.length_cons, GDNode.bulk] at *
    omega
noncomputable def tdN (s : ByteArray) : List GDNode := ((textDataP s).getD ⟨[]⟩).nodes
noncomputable def tdB (s : ByteArray) : Bool := (textDataP s).isSome
theorem tdN_bulk {s : ByteArray} (hs : s.size ≤ 1048576) : bulkS GDNode.bulk (tdN s) ≤ 2097153 := by
  unfold tdN textDataP
  split
  · rename_i t h
    split
    · have h1 := td_bulk hs h 203
      have h2 := layT_bulk 203 0 t
      show bulkS GDNode.bulk (layT 203 0 t) ≤ _
      omega
    · show bulkS GDNode.bulk [] ≤ _
      simp [bulkS]
  · show bulkS GDNode.bulk [] ≤ _
    simp [bulkS]
theorem StPost.all {s : ByteArray} {w w' : World} {e : Ending} (h : StPost s w e w') : ∃ u, e = .returned (.tuple #[.agg #[u], .bool (tdB s)]) ∧ Sl GDNode.R 4 w.heap.size w' u (tdN s) ∧ Below w.heap.size w w' := by
  rcases h with ⟨d, u, hd, he, hS, hb⟩ | ⟨hd, he, hb⟩
  · exact ⟨u, by rw [he]; unfold tdB; rw [hd]; rfl, by unfold tdN; rw [hd]; exact hS, hb⟩
  · exact ⟨_, by rw [he]; unfold tdB; rw [hd]; rfl, by unfold tdN; rw [hd]; exact Sl.nil, hb⟩
theorem TiPost.all {s : ByteArray} {w w' : World} {e : Ending} (h : TiPost s w e w') : ∃ v ps, e = .returned (.tuple #[.agg #[v], .bool (tdB s)]) ∧ OwnD (fun _ => False) 44 w.heap.size w' v ps ∧ DisjK ps ∧ KO w.heap.size w' ps ∧ ps.map (·.1) = tdN s ∧ Below w.heap.size w w' := by
  rcases h with ⟨d, v, ps, hd, he, hO, hD, hK, hp, hb⟩ | ⟨hd, he, hb⟩
  · exact ⟨v, ps, by rw [he]; unfold tdB; rw [hd]; rfl, hO, hD, hK, by unfold tdN; rw [hd]; exact hp, hb⟩
  · exact ⟨_, [], by rw [he]; unfold tdB; rw [hd]; rfl, OwnD.nil _ _ _ _, List.Pairwise.nil, (fun p hp => by cases hp), by unfold tdN; rw [hd]; rfl, hb⟩

namespace fnExactTextData
set_option maxRecDepth 100000 in
set_option maxHeartbeats 16000000 in
theorem law (s : ByteArray) (w : World) :
    Calls Try.prog 5 #[.string s] w fun en w' => en = .returned (.bool true) ∧ Below w.heap.size w w' := by
  by_cases hlen : s.size ≤ 1048576
  rotate_left
  · have hd : (1048576 : Int) < s.size := by omega
    go_enter Try.func5, Try.ntmps5
    go_wp2_with fail
    go_returns
    exact ⟨rfl, Below.refl _ _⟩
  have hd : ¬ (1048576 : Int) < s.size := by omega
  have cS := fun W => spec_TextData_c s hlen W
  have cI := fun W => impl_TextData_c s hlen W
  have hbk := tdN_bulk hlen
  replace cS := Lib.hid cS; replace cI := Lib.hid cI
  go_enter Try.func5, Try.ntmps5
  go_upto_region 4 with (go_at_call 15; (with_reducible refine (cS.out w).mono ?_); rintro e w1 hP1; obtain ⟨u, rfl, S1, hb1⟩ := hP1.all; obtain ⟨ua, uc, rfl⟩ := S1.form; clear hP1)
  obtain ⟨w2, hW2⟩ : ∃ W, W = w1.alloc (.cells #[.slice ua (tdN s).length uc] 25) := ⟨_, rfl⟩
  rw [← hW2]
  have hb2 : Below w1.heap.size w1 w2 := by rw [hW2]; go_grown
  have B : RowAt w2 w1.heap.size 0 [.slice ua (tdN s).length uc] := by rw [hW2]; exact RowAt.box w1 #[_] _
  have hw2 := hb1.trans (hb2.mono hb1.size)
  have S2 := S1.below GDNode.good hb2
  have hs2 : w2.heap.size = w1.heap.size + 1 := by rw [hW2]; simp
  obtain ⟨b3, hb3⟩ : ∃ x, x = w1.heap.size := ⟨_, rfl⟩
  rw [← hb3] at B hs2 ⊢
  have hz1 := hb1.size
  clear hW2 hb1 hb2 S1
  obtain ⟨n0, hn0⟩ : ∃ x, x = (tdN s).length := ⟨_, rfl⟩
  rw [← hn0] at B S2 ⊢
  replace hn0 := Lib.hid hn0; replace hb3 := Lib.hid hb3; replace S2 := Lib.hid S2; replace hbk := Lib.hid hbk
  have hz2 := hw2.size
  go_upto_region 5 with (go_at_call 13; (with_reducible refine (cI.out w2).mono ?_); rintro e w3 hP3; obtain ⟨v, ps, rfl, O3, D3, K3, hps, hb3'⟩ := hP3.all; obtain ⟨va, vc, rfl⟩ := O3.form; clear hP3)
  obtain ⟨w4, hW4⟩ : ∃ W, W = w3.alloc (.cells #[.slice va ps.length vc] 25) := ⟨_, rfl⟩
  rw [← hW4]
  have hb4 : Below w3.heap.size w3 w4 := by rw [hW4]; go_grown
  have D : RowAt w4 w3.heap.size 0 [.slice va ps.length vc] := by rw [hW4]; exact RowAt.box w3 #[_] _
  have DW : Wr w4 w3.heap.size 0 1 := by rw [hW4]; exact Wr.box w3 #[_] _
  have hs4 : w4.heap.size = w3.heap.size + 1 := by rw [hW4]; simp
  have F4 : Below w2.heap.size w2 w4 := hb3'.trans (hb4.mono hb3'.size)
  have O4 := O3.below hb4
  have K4 := K3.below hb4
  have hin : ∀ q, InD (.slice va ps.length vc) ps q → q < w3.heap.size := fun q hq => by
    rcases hq with hq | ⟨p, hp, hq⟩
    · exact (O3.own.base q hq).2
    · exact ((O3.kids p hp).2 q hq).2
  have hk : kS 1 ps ≤ 4611686018427387904 := by have := kS_bulk 1 ps; rw [hps] at this; have := hbk.out; omega
  have hz3 := hb3'.size
  obtain ⟨b5, hb5⟩ : ∃ x, x = w3.heap.size := ⟨_, rfl⟩
  rw [← hb5] at D DW hs4 hin hz3 ⊢
  clear hW4 hb4 O3 K3 hb3'
  replace hin := Lib.hid hin; replace O4 := Lib.hid O4; replace D3 := Lib.hid D3; replace K4 := Lib.hid K4; replace hps := Lib.hid hps; replace hk := Lib.hid hk; replace hb5 := Lib.hid hb5
  -- the first comparison
  have cQ : ∀ W, Below w4.heap.size w4 W → Calls Try.prog 16 #[.agg #[.slice va ps.length vc], .agg #[.slice ua n0 uc]] W fun e W' => e = .returned (.bool true) ∧ Below W.heap.size W W' := fun W hW => by
    have h1 : GData.R w2.heap.size W [.slice va ps.length vc] ⟨tdN s⟩ := ⟨_, rfl, trivial, by have h := O4.out.sl.below GDNode.good hW; rw [hps.out] at h; exact h⟩
    have h2 : GData.R w.heap.size W [.slice ua n0 uc] ⟨tdN s⟩ := ⟨_, rfl, trivial, S2.out.below GDNode.good (F4.trans (hW.mono F4.size))⟩
    refine (eqData_c ⟨tdN s⟩ ⟨tdN s⟩ [.slice va ps.length vc] [.slice ua n0 uc] _ _ W h1 h2).mono fun e W' ⟨he, hb⟩ => ⟨by rw [he]; simp, hb⟩
  replace cQ := Lib.hid cQ
  have B4 := B.below F4
  have b_0 := B4.box1
  have d_0 := D.box1
  have hF4 := F4.size
  generalize hpl : ps.length = pl at *
  replace hpl := Lib.hid hpl
  go_upto_region 8 with (go_at_call 16; (with_reducible refine (cQ.out _ (Below.refl _ _)).mono ?_); rintro e w5 ⟨rfl, hb⟩; have F5 := F4.trans (hb.mono F4.size); have B5 := B4.below hb; have D5 := D.below hb; have DW5 := DW.below hb; have O5 := O4.out.below hb; have K5 := K4.out.below hb; have hz5 := hb.size)
  have b_1 := B5.box1
  have d_1 := D5.box1
  have hbl := World.block_lt_of_cell? _ _ d_1; dsimp only at hbl
  have cM := markData_c _ _ ps 1 w2.heap.size w5 O5 D3.out K5 (by omega) hk.out
  rw [show ((1 : Nat) : Int) = 1 from rfl] at cM
  replace cM := Lib.hid cM; replace O5 := Lib.hid O5; replace K5 := Lib.hid K5
  clear b_0 d_0 B4 O4 K4 cQ
  go_upto_region 9 with (go_at_call 17; (with_reducible refine (cM.out).mono ?_); rintro e w6 ⟨rfl, hM, hb6, hK6⟩)
  have F6 := F5.trans hb6
  have B6 := B.below F6
  have D6 := D5.kept hK6 (fun h => Nat.lt_irrefl _ (hin.out _ h))
  have hz6 := hb6.size
  have b_2 := B6.box1
  have d_2 := D6.box1
  have S6 := S2.out.below GDNode.good F6
  have cH := fun W (hW : Below w6.heap.size w6 W) => heldData_c _ ps 1 W (hM.below hW) hM.form hk.out (Nat.le_trans (kS_len 1 ps) hk.out)
  simp only [show ((1 : Nat) : Int) = 1 from rfl] at cH
  replace cH := Lib.hid cH; replace S6 := Lib.hid S6
  have hk2 : ((kS 1 ps : Nat) : Int) ≤ 4611686018427387904 := by have := hk.out; omega
  clear hM hK6 b_1 d_1 cM O5 K5 hk
  generalize hkk : kS 1 ps = kk at *
  replace hkk := Lib.hid hkk
  have hbl6 := World.block_lt_of_cell? _ _ d_2; dsimp only at hbl6
  go_upto_region 15 with (go_at_call 18; (with_reducible refine (cH.out _ (Below.refl _ _)).mono ?_); rintro e w7 ⟨rfl, hb7⟩; have F7 := F6.trans (hb7.mono F6.size); have B7 := B6.below hb7; have D7 := D6.below hb7; have hz7 := hb7.size)
  have b_3 := B7.box1
  have d_3 := D7.box1
  have hw7 := hw2.trans (F7.mono hz2)
  clear b_2 d_2
  go_upto_region 16 with (go_at_call 13; (with_reducible refine (cI.out w7).mono ?_); rintro e w8 hP8; obtain ⟨v2, ps2, rfl, O8, D8', K8', hps2, hb8⟩ := hP8.all; obtain ⟨xa, xc, rfl⟩ := O8.form; clear hP8 D8' K8')
  obtain ⟨w9, hW9⟩ : ∃ W, W = w8.alloc (.cells #[.slice xa ps2.length xc] 25) := ⟨_, rfl⟩
  rw [← hW9]
  have hb9 : Below w8.heap.size w8 w9 := by rw [hW9]; go_grown
  have E9 : RowAt w9 w8.heap.size 0 [.slice xa ps2.length xc] := by rw [hW9]; exact RowAt.box w8 #[_] _
  have hs9 : w9.heap.size = w8.heap.size + 1 := by rw [hW9]; simp
  have hb79 : Below w7.heap.size w7 w9 := hb8.trans (hb9.mono hb8.size)
  have cR : ∀ W, Below w9.heap.size w9 W → Calls Try.prog 16 #[.agg #[.slice xa ps2.length xc], .agg #[.slice ua n0 uc]] W fun e W' => e = .returned (.bool true) ∧ Below W.heap.size W W' := fun W hW => by
    have h1 : GData.R w7.heap.size W [.slice xa ps2.length xc] ⟨tdN s⟩ := ⟨_, rfl, trivial, by have h := (O8.below hb9).sl.below GDNode.good hW; rw [hps2] at h; exact h⟩
    have h2 : GData.R w.heap.size W [.slice ua n0 uc] ⟨tdN s⟩ := ⟨_, rfl, trivial, (S6.out.below GDNode.good hb7).below GDNode.good (hb79.trans (hW.mono hb79.size))⟩
    refine (eqData_c ⟨tdN s⟩ ⟨tdN s⟩ [.slice xa ps2.length xc] [.slice ua n0 uc] _ _ W h1 h2).mono fun e W' ⟨he, hb⟩ => ⟨by rw [he]; simp, hb⟩
  have B9 := B7.below hb79
  have D9 := D7.below hb79
  have hb69 := hb7.trans (hb79.mono hb7.size)
  have hz79 := hb79.size
  obtain ⟨b9, hb9'⟩ : ∃ x, x = w8.heap.size := ⟨_, rfl⟩
  rw [← hb9'] at E9 hs9 ⊢
  have b_4 := B9.box1
  have d_4 := D9.box1
  have e_4 := E9.box1
  replace cR := Lib.hid cR; replace hb9' := Lib.hid hb9'
  clear hW9 hb9 O8 hps2 hb8 b_3 d_3
  generalize ps2.length = pl2 at *
  go_upto_region 19 with (go_at_call 16; (with_reducible refine (cR.out _ (Below.refl _ _)).mono ?_); rintro e w10 ⟨rfl, hb10⟩; have D10 := D9.below hb10; have d_5 := D10.box1)
  have hb610 := hb69.trans (hb10.mono hb69.size)
  have hw10 := hw7.trans ((hb79.trans (hb10.mono hb79.size)).mono hw7.size)
  have hbl10 := World.block_lt_of_cell? _ _ d_5; dsimp only at hbl10
  go_wp2_with (go_at_call 18; (with_reducible refine (cH.out _ hb610).mono ?_); rintro e w11 ⟨rfl, hb11⟩)
  go_returns
  exact ⟨rfl, hw10.trans (hb11.mono hw10.size)⟩
end fnExactTextData
end Go.Proofs.Ytpblhonnknmjjaa
