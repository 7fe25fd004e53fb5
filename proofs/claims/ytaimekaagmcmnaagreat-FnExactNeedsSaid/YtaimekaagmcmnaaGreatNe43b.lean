/- The reference's l09Free: all kinds. -/
import Derived.Test.YtaimekaagmcmnaaGreatNe43
namespace Go.Proofs.YtaimekaagmcmnaaGreat
open Go.RowKit
set_option linter.unusedVariables false
set_option linter.unusedSimpArgs false
attribute [local go_sem] Ext.cell
set_option maxRecDepth 100000 in
set_option maxHeartbeats 16000000 in
theorem l09FreeO (p : GProgram) (name : ByteArray) (f : Nat) (ih : ∀ (t : ExT) (a : Nat), szE t ≤ f → Laid p.nodes a t → okE t = true → ∀ (r : List Value) (lo : Nat) (w : World), GProgram.R lo w r p → Calls Tryz.prog 17 #[.agg r.toArray, .int .i64 (a : Int), .string name] w fun e w' => e = .returned (.bool (freeP name t)) ∧ Below w.heap.size w w') (kd at_ nn : Int) (s : ByteArray) (ks : List ExT) (ps : List GPat) (a : Nat) (hK : Hid (kd ≠ 13)) (hf : szE (.mk kd at_ nn s ks ps) ≤ f + 1) (hl : Laid p.nodes a (.mk kd at_ nn s ks ps)) (hok : okE (.mk kd at_ nn s ks ps) = true) (r : List Value) (lo : Nat) (w : World) (hr : GProgram.R lo w r p) :
    Calls Tryz.prog 17 #[.agg r.toArray, .int .i64 (a : Int), .string name] w fun e w' => e = .returned (.bool (freeP name (.mk kd at_ nn s ks ps))) ∧ Below w.heap.size w w' := by
    have Hr := hr
    obtain ⟨tv, nv, rfl, -, hT, hNs⟩ := hr
    obtain ⟨ta, tc, rfl⟩ := hT.form
    obtain ⟨na, nc, rfl, ul, um, h0⟩ := hNs
    have hhead := hl.head
    have ha := (List.getElem?_eq_some_iff.1 hhead).1
    obtain ⟨b1, o1, x, r1, _, rfl, P1, hx, hr1⟩ := h0.get (Lib.hid rfl) ha
    obtain rfl := Option.some.inj (hhead.symm.trans P1.out)
    obtain ⟨u0, u1, rfl, hwf, hk, hp⟩ := hx
    obtain ⟨ka, kc, rfl, kl, km, k0⟩ := hk
    have hP := hp
    obtain ⟨pa, pc, rfl, pl, pm_, p0⟩ := hp
    dsimp only at kl k0 pl p0 hP hr1 hwf
    have hmk : (plE (a + 1) ks).length = ks.length := plE_len _ _
    obtain ⟨m, hm⟩ : ∃ m, m = ks.length := ⟨_, rfl⟩
    rw [hmk, ← hm] at kl hr1
    obtain ⟨n, hn⟩ : ∃ n, n = p.nodes.length := ⟨_, rfl⟩
    rw [← hn] at ul ha Hr ⊢
    generalize p.types.length = tn at *
    obtain ⟨pm, hpm⟩ : ∃ x, x = ps.length := ⟨_, rfl⟩
    rw [← hpm] at pl hr1
    rw [okE] at hok
    simp only [Bool.and_eq_true, decide_eq_true_eq, List.all_eq_true] at hok
    obtain ⟨⟨hok1, hok2⟩, hok3⟩ := hok
    rw [← hm, ← hpm] at hok1
    have e_0 : w.cell? ⟨b1, o1 + a * 6, none⟩ = some (.int .i64 kd) := by simpa using hr1 0 _ rfl
    have e_1 : w.cell? ⟨b1, o1 + a * 6 + 1, none⟩ = some (.int .i64 at_) := hr1 1 _ rfl
    have e_2 : w.cell? ⟨b1, o1 + a * 6 + 2, none⟩ = some (.int .i64 nn) := hr1 2 _ rfl
    have e_3 : w.cell? ⟨b1, o1 + a * 6 + 3, none⟩ = some (.string s) := hr1 3 _ rfl
    have e_4 : w.cell? ⟨b1, o1 + a * 6 + 4, none⟩ = some (.slice ka m kc) := hr1 4 _ rfl
    have e_5 : w.cell? ⟨b1, o1 + a * 6 + 5, none⟩ = some (.slice pa pm pc) := hr1 5 _ rfl
    have hbb1 := World.block_lt_of_cell? _ _ e_0; dsimp only at hbb1
    have cc : (s.toList == name.toList) = eqS s name := eqS_list s name
    have hvar : kd = 3 → freeP name (.mk kd at_ nn s ks ps) = eqS s name := fun h => by subst h; exact freeP_var _ _ _ _ _ _
    have htrue : kd ≠ 3 → ∀ j k, ks[j]? = some k → bindsP kd s ps j name = false → freeP name k = true → freeP name (.mk kd at_ nn s ks ps) = true := fun h j k h1 h2 h3 => freeP_true h h1 h2 h3
    have hfalse : kd ≠ 3 → (∀ j k, ks[j]? = some k → bindsP kd s ps j name = true ∨ freeP name k = false) → freeP name (.mk kd at_ nn s ks ps) = false := fun h h1 => freeP_false h h1
    have hkid : ∀ j k, ks[j]? = some k → szE k ≤ f ∧ Laid p.nodes (a + 1 + szEs (ks.take j)) k ∧ (plE (a + 1) ks)[j]? = some ((a + 1 + szEs (ks.take j) : Nat) : Int) ∧ okE k = true := fun j k hk => by
      have h1 := hl.kid hk
      have h2 := szEs_mem hk
      rw [szE_mk] at hf
      exact ⟨by omega, h1.1, h1.2, okEs_get hok3 hk⟩
    generalize freeP name (.mk kd at_ nn s ks ps) = res at *
    have kK : ∀ W, Below w.heap.size w W → SlAt IntR 1 lo W ka (plE (a + 1) ks) := fun W hW => k0.below IntR.good hW
    have pK : ∀ W, Below w.heap.size w W → SlAt GPat.R 1 lo W pa ps := fun W hW => p0.below GPat.good hW
    have iF : ∀ k c W, szE k ≤ f → Laid p.nodes c k → okE k = true → Below w.heap.size w W → Calls Tryz.prog 17 #[.agg #[.slice ta tn tc, .slice (some ⟨b1, o1, none⟩) n nc], .int .i64 (c : Int), .string name] W fun e w' => e = .returned (.bool (freeP name k)) ∧ Below W.heap.size W w' := fun k c W h1 h2 h3 hW => ih k c h1 h2 h3 _ lo W (GProgram.good.below Hr hW)
    generalize hqn : eqS s name = qn at *
    clear hr1 hP h0 hT k0 p0 hhead hwf hmk Hr ih
    replace hn := Lib.hid hn; replace hm := Lib.hid hm; replace hpm := Lib.hid hpm; replace hok1 := Lib.hid hok1; replace hok2 := Lib.hid hok2; replace hok3 := Lib.hid hok3; replace hvar := Lib.hid hvar; replace htrue := Lib.hid htrue; replace hfalse := Lib.hid hfalse; replace hkid := Lib.hid hkid; replace kK := Lib.hid kK; replace pK := Lib.hid pK; replace iF := Lib.hid iF; replace hl := Lib.hid hl; replace hqn := Lib.hid hqn
    show Calls Tryz.prog 17 #[.agg #[.slice ta tn tc, .slice (some ⟨b1, o1, none⟩) n nc], .int .i64 (a : Int), .string name] w _
    go_enter Tryz.func17, Tryz.ntmps17
    go_upto_region 1 with fail
    have D : RowAt (w.alloc (.cells #[.slice ta tn tc, .slice (some ⟨b1, o1, none⟩) n nc] 32)) (w.heap.size) 0 [.slice ta tn tc, .slice (some ⟨b1, o1, none⟩) n nc] := RowAt.box w #[.slice ta tn tc, .slice (some ⟨b1, o1, none⟩) n nc] 32
    have hw : Below w.heap.size w (w.alloc (.cells #[.slice ta tn tc, .slice (some ⟨b1, o1, none⟩) n nc] 32)) := by go_grown
    generalize (w.alloc (.cells #[.slice ta tn tc, .slice (some ⟨b1, o1, none⟩) n nc] 32)) = w0 at *
    obtain ⟨d_0, d_1⟩ := D.box2; have hsD := World.block_lt_of_cell? _ _ d_0; dsimp only at hsD
    obtain ⟨f_0, f_1, f_2, f_3, f_4, f_5⟩ : w0.cell? ⟨b1, o1 + a * 6, none⟩ = some (.int .i64 kd) ∧ w0.cell? ⟨b1, o1 + a * 6 + 1, none⟩ = some (.int .i64 at_) ∧ w0.cell? ⟨b1, o1 + a * 6 + 2, none⟩ = some (.int .i64 nn) ∧ w0.cell? ⟨b1, o1 + a * 6 + 3, none⟩ = some (.string s) ∧ w0.cell? ⟨b1, o1 + a * 6 + 4, none⟩ = some (.slice ka m kc) ∧ w0.cell? ⟨b1, o1 + a * 6 + 5, none⟩ = some (.slice pa pm pc) := ⟨cell_below hw e_0, cell_below hw e_1, cell_below hw e_2, cell_below hw e_3, cell_below hw e_4, cell_below hw e_5⟩
    have hbb2 := World.block_lt_of_cell? _ _ f_0; dsimp only at hbb2
    clear e_0 e_1 e_2 e_3 e_4 e_5 hbb1
    go_upto_region 2 with fail
    obtain ⟨w1, hW1⟩ : ∃ W, W = w0.alloc (.cells #[.int .i64 kd, .int .i64 at_, .int .i64 nn, .string s, .slice ka m kc, .slice pa pm pc] 74) := ⟨_, rfl⟩
    rw [← hW1]
    have hb1 : Below w0.heap.size w0 w1 := by rw [hW1]; go_grown
    have E : RowAt w1 w0.heap.size 0 [.int .i64 kd, .int .i64 at_, .int .i64 nn, .string s, .slice ka m kc, .slice pa pm pc] := by rw [hW1]; exact RowAt.box w0 #[_, _, _, _, _, _] _
    have D1 := D.below hb1
    have hw1 := hw.trans (hb1.mono hw.size)
    obtain ⟨eb, heb⟩ : ∃ x, x = w0.heap.size := ⟨_, rfl⟩
    rw [← heb] at E ⊢
    clear hW1 f_0 f_1 f_2 f_3 f_4 f_5 hbb2 d_0 d_1 hsD D hw hb1
    replace heb := Lib.hid heb
    obtain ⟨e_0, e_1, e_2, e_3, e_4, e_5⟩ := E.box6; have hsE := World.block_lt_of_cell? _ _ e_0; dsimp only at hsE; obtain ⟨d1_0, d1_1⟩ := D1.box2; have hsD1 := World.block_lt_of_cell? _ _ d1_0; dsimp only at hsD1
    by_cases h3 : kd = 3
    · have hv := hvar.out h3
      subst hv h3
      clear hvar htrue hfalse hkid
      go_wp2_with fail
      go_returns
      exact ⟨rfl, hw1⟩
    have d3 : (kd == 3) = false := beq_eq_false_iff_ne.2 h3
    replace htrue := Lib.hid (htrue.out h3); replace hfalse := Lib.hid (hfalse.out h3)
    clear hvar
    go_wp2_with fail
    go_loopw [26] (fun ii wr => ∃ j : Nat, j ≤ m ∧ ii = .int .i64 j ∧ Hid (∀ i k, i < j → ks[i]? = some k → bindsP kd s ps i name = true ∨ freeP name k = false) ∧ Below w.heap.size w wr ∧ RowAt wr eb 0 [.int .i64 kd, .int .i64 at_, .int .i64 nn, .string s, .slice ka m kc, .slice pa pm pc] ∧ RowAt wr w.heap.size 0 [.slice ta tn tc, .slice (some ⟨b1, o1, none⟩) n nc]) (fun ii _ => m - (intOf ii).toNat)
    case atStart => exact ⟨0, by omega, rfl, Lib.hid (fun i k h => by omega), hw1, E, D1⟩
    case round =>
      clear e_0 e_1 e_2 e_3 e_4 e_5 hsE d1_0 d1_1 hsD1 E D1 hw1
      obtain ⟨j, hj, rfl, hF, hw, E, D⟩ := hrel
      by_cases hlt : j < m
      · obtain ⟨k, hk⟩ : ∃ k, ks[j]? = some k := ⟨_, List.getElem?_eq_getElem (by have := hm.out; omega)⟩
        obtain ⟨g1, g2, g3, g4⟩ := hkid.out j k hk
        obtain ⟨b2, o2, y, r2, _, rfl, P2, ⟨rfl, -⟩, r2'⟩ := (kK.out _ hw).get (Lib.hid (show m = (plE (a + 1) ks).length by rw [plE_len]; exact hm.out)) hlt
        obtain rfl := Option.some.inj (g3.symm.trans P2.out)
        have q_0 : wr.cell? ⟨b2, o2 + j, none⟩ = some (.int .i64 ((a + 1 + szEs (ks.take j) : Nat) : Int)) := by simpa using r2' 0 _ rfl
        have hq0 := World.block_lt_of_cell? _ _ q_0; dsimp only at hq0
        have cF := fun W (hW : Below wr.heap.size wr W) => iF.out k _ W g1 g2 g4 (hw.trans (hW.mono hw.size))
        have hnext : bindsP kd s ps j name = true ∨ freeP name k = false → ∀ i k', i < j + 1 → ks[i]? = some k' → bindsP kd s ps i name = true ∨ freeP name k' = false := fun h i k' hi hk' => by
          rcases Nat.lt_or_ge i j with h1 | h1
          · exact hF.out i k' h1 hk'
          · obtain rfl : i = j := by omega
            obtain rfl := Option.some.inj (hk.symm.trans hk')
            exact h
        have hyes : bindsP kd s ps j name = false → freeP name k = true → res = true := fun h1 h2 => htrue.out j k hk h1 h2
        have hz := hw.size
        have hq : kd = 13 → 0 < j → ∃ qq rr bq oq, ps[j - 1]? = some qq ∧ GPat.R lo wr rr qq ∧ qq.nodes.length ≤ 600 ∧ pa = some ⟨bq, oq, none⟩ ∧ RowAt wr bq (oq + (j - 1)) rr ∧ j - 1 < pm := fun h1 h2 => by
          have hjp : j - 1 < pm := by have := hok1.out h1; omega
          obtain ⟨bq, oq, qq, rr, _, rfl, P3, hR, r3⟩ := (pK.out _ hw).get (Lib.hid hpm.out) hjp
          exact ⟨qq, rr, bq, oq, P3.out, hR, hok2.out qq (List.mem_of_getElem? P3.out), rfl, by simpa using r3, hjp⟩
        generalize ((a + 1 + szEs (ks.take j) : Nat) : Int) = c at *
        generalize freeP name k = fk at *
        obtain ⟨bd, hbd⟩ : ∃ q, bindsP kd s ps j name = q := ⟨_, rfl⟩
        rw [hbd] at hnext hyes
        have hrel0 : bd = true ∨ fk = false → ∀ W, Below wr.heap.size wr W → ∃ j' : Nat, j' ≤ m ∧ (Value.int .i64 ((j : Int) + 1)) = .int .i64 j' ∧ Hid (∀ i k, i < j' → ks[i]? = some k → bindsP kd s ps i name = true ∨ freeP name k = false) ∧ Below w.heap.size w W ∧ RowAt W eb 0 [.int .i64 kd, .int .i64 at_, .int .i64 nn, .string s, .slice (some ⟨b2, o2, none⟩) m kc, .slice pa pm pc] ∧ RowAt W w.heap.size 0 [.slice ta tn tc, .slice (some ⟨b1, o1, none⟩) n nc] := fun h W hW =>
          ⟨j + 1, by omega, by go_num, Lib.hid (hnext h), hw.trans (hW.mono hz), E.below hW, D.below hW⟩
        have hdone : bd = false → fk = true → ∀ W, Below wr.heap.size wr W → ∀ v : Bool, v = true → (Ending.returned (.bool v)) = .returned (.bool res) ∧ Below w.heap.size w W := fun h1 h2 W hW v hv => ⟨by rw [hyes h1 h2, hv], hw.trans (hW.mono hz)⟩
        clear r2' P2 hnext hyes g1 g2 g3 g4
        replace cF := Lib.hid cF; replace hrel0 := Lib.hid hrel0; replace hdone := Lib.hid hdone; replace hk := Lib.hid hk; replace hq := Lib.hid hq; replace hbd := Lib.hid hbd
        obtain ⟨e_0, e_1, e_2, e_3, e_4, e_5⟩ := E.box6; have hsE := World.block_lt_of_cell? _ _ e_0; dsimp only at hsE; obtain ⟨d_0, d_1⟩ := D.box2; have hsD := World.block_lt_of_cell? _ _ d_0; dsimp only at hsD
        go_upto_region 7 with fail
        go_cut [10] (fun sx wx => sx = .bool (b7P kd qn j) ∧ wx = wr)
        case first =>
          clear cF hrel0 hdone hk hq hbd hF hw E D d_0 d_1 hsD hl hok1 hok2 hok3 hkid kK pK iF htrue hfalse hn hm hpm heb q_0 hq0 kl km pl pm_ ul um hf ha d3
          by_cases h5 : kd = 5
          · subst h5
            cases qn <;> (go_wp2_with fail; go_meet; exact ⟨rfl, rfl⟩)
          by_cases h8 : kd = 8
          · subst h8
            clear h5
            cases qn <;> (go_wp2_with fail; go_meet; exact ⟨rfl, rfl⟩)
          have d5 : (kd == 5) = false := beq_eq_false_iff_ne.2 h5
          have d8 : (kd == 8) = false := beq_eq_false_iff_ne.2 h8
          by_cases h7 : kd = 7 ∨ kd = 15
          · by_cases hj1 : j = 1
            · have dj : ((j : Int) == 1) = true := by rw [hj1]; rfl
              have hb7 : b7P kd qn j = qn := by unfold b7P; rw [if_neg (by omega), if_pos h7, decide_eq_true hj1, Bool.true_and]
              replace hj1 := Lib.hid hj1; replace hb7 := Lib.hid hb7
              rcases h7 with h7 | h7 <;> subst h7 <;> clear h5 h8 d5 d8 <;> cases qn <;> (go_wp2_with fail; go_meet; exact ⟨by rw [hb7.out], rfl⟩)
            · have dj : ((j : Int) == 1) = false := beq_eq_false_iff_ne.2 (by omega)
              have hb7 : b7P kd qn j = false := by unfold b7P; rw [if_neg (by omega), if_pos h7, decide_eq_false hj1, Bool.false_and]
              replace hj1 := Lib.hid hj1; replace hb7 := Lib.hid hb7
              rcases h7 with h7 | h7 <;> subst h7 <;> clear h5 h8 d5 d8 <;> (go_wp2_with fail; go_meet; exact ⟨by rw [hb7.out], rfl⟩)
          · have hb7 : b7P kd qn j = false := by unfold b7P; rw [if_neg (by omega), if_neg h7]
            have d7 : (kd == 7) = false := beq_eq_false_iff_ne.2 (by omega)
            have d15 : (kd == 15) = false := beq_eq_false_iff_ne.2 (by omega)
            clear h5 h8 h7
            replace hb7 := Lib.hid hb7
            go_wp2_with fail
            go_meet
            exact ⟨by rw [hb7.out], rfl⟩
        obtain ⟨rfl, hwc⟩ := hcut
        subst hwc
        have h13 := hK.out
        have d13 : (kd == 13) = false := beq_eq_false_iff_ne.2 h13
        have hb2 : b7P kd qn j = bd := by rw [← hbd.out, ← hqn.out]; exact (bindsP_b7 h13).symm
        rw [hb2]
        clear hb2 h13 hq hbd hF hl hok1 hok2 hok3 hkid kK pK iF htrue hfalse hn heb
        cases bd
        · go_upto_if 95 with (go_at_call 17; (with_reducible refine (cF.out _ (by first | exact Below.refl _ _ | assumption)).mono ?_); rintro e w2 ⟨rfl, hb2⟩)
          cases fk
          · go_wp2_with fail
            go_roundw
            case rel => exact hrel0.out (.inr (by first | rfl | trivial)) _ hb2
            case measure => simp [intOf]; omega
          · go_wp2_with fail
            go_returns
            exact hdone.out (by first | rfl | trivial) (by first | rfl | trivial) _ hb2 _ rfl
        · go_wp2_with fail
          go_roundw
          case rel => exact hrel0.out (.inl (by first | rfl | trivial)) _ (Below.refl _ _)
          case measure => simp [intOf]; omega
      · obtain rfl : j = m := by omega
        have hr := hfalse.out (fun i k hk => hF.out i k (by have := (List.getElem?_eq_some_iff.1 hk).1; have := hm.out; omega) hk)
        subst hr
        go_wp2_with fail
        go_returns
        exact ⟨rfl, hw⟩
theorem l09Free_c (p : GProgram) (name : ByteArray) : ∀ (f : Nat) (t : ExT) (a : Nat), szE t ≤ f → Laid p.nodes a t → okE t = true → ∀ (r : List Value) (lo : Nat) (w : World), GProgram.R lo w r p →
    Calls Tryz.prog 17 #[.agg r.toArray, .int .i64 (a : Int), .string name] w fun e w' => e = .returned (.bool (freeP name t)) ∧ Below w.heap.size w w'
  | 0, t, a, hf, _, _ => absurd hf (by have := szE_pos t; omega)
  | f + 1, .mk kd at_ nn s ks ps, a, hf, hl, hok => fun r lo w hr => by
    by_cases h : kd = 13
    · exact l09FreeM p name f (l09Free_c p name f) kd at_ nn s ks ps a (Lib.hid h) hf hl hok r lo w hr
    · exact l09FreeO p name f (l09Free_c p name f) kd at_ nn s ks ps a (Lib.hid h) hf hl hok r lo w hr
end Go.Proofs.YtaimekaagmcmnaaGreat
