/- Parts of the proof, merged: FrS. -/
import Derived.Test.YtaimekaagmcmnaaGreatNe42
/- The reference's l09Binds and l09Free. -/
namespace Go.Proofs.YtaimekaagmcmnaaGreat
open Go.RowKit
set_option linter.unusedVariables false
set_option linter.unusedSimpArgs false
attribute [local go_sem] Ext.cell

set_option maxRecDepth 100000 in
set_option maxHeartbeats 8000000 in
theorem l09Binds_c (q : GPat) (hq : q.nodes.length ≤ 600) (name : ByteArray) (r : List Value) (lo : Nat) (w : World) (hr : GPat.R lo w r q) :
    Calls Tryz.prog 39 #[.agg r.toArray, .string name] w fun e w' => e = .returned (.bool (anyS (pnames q) name)) ∧ Below w.heap.size w w' := by
  obtain ⟨u0, rfl, _, hS⟩ := hr
  obtain ⟨N⟩ := q
  dsimp only at hS hq
  obtain ⟨na, nc, rfl, ul, um, h0⟩ := hS
  obtain ⟨n, hn⟩ : ∃ n, n = N.length := ⟨_, rfl⟩
  rw [← hn] at ul hq ⊢
  have hkk : ∀ W, Below w.heap.size w W → SlAt GPNode.R 4 lo W na N := fun W hW => h0.below GPNode.good hW
  have hA : anyS (pnames ⟨N⟩) name = N.any fun x => x.kind == 2 && eqS name x.s := anyS_pnamesL name N
  have htrue : ∀ x ∈ N, x.kind = 2 → eqS name x.s = true → anyS (pnames ⟨N⟩) name = true := fun x hx h1 h2 => by rw [hA, List.any_eq_true]; exact ⟨x, hx, by rw [h1, h2]; rfl⟩
  have hfalse : (∀ x ∈ N, ¬ (x.kind = 2 ∧ eqS name x.s = true)) → anyS (pnames ⟨N⟩) name = false := fun h => by
    rw [hA, List.any_eq_false]
    intro x hx h2
    simp only [Bool.and_eq_true, beq_iff_eq] at h2
    exact h x hx h2
  clear h0 hA
  generalize anyS (pnames ⟨N⟩) name = res at *
  replace hn := Lib.hid hn; replace hkk := Lib.hid hkk; replace htrue := Lib.hid htrue; replace hfalse := Lib.hid hfalse
  show Calls Tryz.prog 39 #[.agg #[.slice na n nc], .string name] w _
  go_enter Tryz.func39, Tryz.ntmps39
  go_upto_region 1 with fail
  have B : RowAt (w.alloc (.cells #[.slice na n nc] 83)) (w.heap.size) 0 [.slice na n nc] := RowAt.box w #[.slice na n nc] 83
  have hw : Below w.heap.size w (w.alloc (.cells #[.slice na n nc] 83)) := by go_grown
  generalize (w.alloc (.cells #[.slice na n nc] 83)) = w0 at *
  have b_0 := B.box1; have hsB := World.block_lt_of_cell? _ _ b_0; dsimp only at hsB
  go_wp2_with fail
  go_loopw [10] (fun ii wr => ∃ k : Nat, k ≤ n ∧ ii = .int .i64 k ∧ Hid (∀ x ∈ N.take k, ¬ (x.kind = 2 ∧ eqS name x.s = true)) ∧ Below w.heap.size w wr) (fun ii _ => n - (intOf ii).toNat)
  case atStart => exact ⟨0, by omega, rfl, Lib.hid (fun x hx => by simp at hx), hw⟩
  case round =>
    clear b_0 hsB B hw
    obtain ⟨k, hk, rfl, hF, hw⟩ := hrel
    by_cases hlt : k < n
    · obtain ⟨b1, o1, x, r, _, rfl, P1, hx, r1⟩ := (hkk.out _ hw).get hn.out hlt
      have htk : N.take (k + 1) = N.take k ++ [x] := by rw [List.take_add_one, P1.out]; rfl
      have hmem := List.mem_of_getElem? P1.out
      obtain ⟨v0, rfl, hwf, hk0⟩ := hx
      obtain ⟨ka, kc, rfl⟩ := hk0.form
      have htr := htrue.out x hmem
      have hnx : ¬ (x.kind = 2 ∧ eqS name x.s = true) → ∀ y ∈ N.take (k + 1), ¬ (y.kind = 2 ∧ eqS name y.s = true) := fun h y hy => by
        rw [htk] at hy
        rcases List.mem_append.1 hy with h1 | h1
        · exact hF.out y h1
        · simp only [List.mem_singleton] at h1; subst h1; exact h
      obtain ⟨kd, nn, s, ks⟩ := x
      dsimp only at *
      obtain ⟨e_0, e_1, e_2, e_3⟩ := r1.cells4
      have hbb1 := World.block_lt_of_cell? _ _ e_0; dsimp only at hbb1
      have cc : (s.toList == name.toList) = eqS name s := by rw [eqS_comm']; exact eqS_list s name
      clear hk0 r1 hwf P1 hmem
      generalize ks.length = kn at *
      generalize eqS name s = q at *
      replace htk := Lib.hid htk; replace hnx := Lib.hid hnx; replace htr := Lib.hid htr
      have hz := hw.size
      by_cases h2 : kd = 2
      · subst h2
        cases q
        · go_wp2_with fail
          go_roundw
          case rel => exact ⟨k + 1, by omega, by go_num, Lib.hid (hnx.out (by simp)), hw.trans (Below.mono (by go_grown) hz)⟩
          case measure => simp [intOf]; omega
        · have hr := htr.out rfl rfl
          subst hr
          go_wp2_with fail
          go_returns
          exact ⟨rfl, hw.trans (Below.mono (by go_grown) hz)⟩
      · have d2 : (kd == 2) = false := beq_eq_false_iff_ne.2 h2
        go_wp2_with fail
        go_roundw
        case rel => exact ⟨k + 1, by omega, by go_num, Lib.hid (hnx.out (fun h => h2 h.1)), hw.trans (Below.mono (by go_grown) hz)⟩
        case measure => simp [intOf]; omega
    · obtain rfl : k = n := by omega
      have hr := hfalse.out (by have := hF.out; rw [List.take_of_length_le (by have := hn.out; omega)] at this; exact this)
      subst hr
      go_wp2_with fail
      go_returns
      exact ⟨rfl, hw⟩

def b7P (kd : Int) (qn : Bool) (j : Nat) : Bool := if kd = 5 ∨ kd = 8 then qn else if kd = 7 ∨ kd = 15 then decide (j = 1) && qn else false
theorem bindsP_b7 {kd : Int} {s : ByteArray} {ps : List GPat} {i : Nat} {name : ByteArray} (h13 : kd ≠ 13) : bindsP kd s ps i name = b7P kd (eqS s name) i := by
  unfold bindsP b7P
  rw [if_neg h13]
theorem freeP_var (name : ByteArray) (a n : Int) (s : ByteArray) (ks : List ExT) (ps : List GPat) : freeP name (.mk 3 a n s ks ps) = eqS s name := by
  unfold freeP
  rw [countE_mk, if_pos rfl]
  cases eqS s name <;> rfl
theorem freeP_true {name : ByteArray} {kd a n : Int} {s : ByteArray} {ks : List ExT} {ps : List GPat} (h3 : kd ≠ 3) {j : Nat} {k : ExT} (hk : ks[j]? = some k) (hb : bindsP kd s ps j name = false) (hf : freeP name k = true) : freeP name (.mk kd a n s ks ps) = true := by
  unfold freeP at *
  rw [countE_mk, if_neg h3]
  exact decide_eq_true (countKs_pos ks 0 j k hk (by rw [Nat.zero_add]; exact hb) (of_decide_eq_true hf))
theorem freeP_false {name : ByteArray} {kd a n : Int} {s : ByteArray} {ks : List ExT} {ps : List GPat} (h3 : kd ≠ 3) (h : ∀ j k, ks[j]? = some k → bindsP kd s ps j name = true ∨ freeP name k = false) : freeP name (.mk kd a n s ks ps) = false := by
  unfold freeP at *
  rw [countE_mk, if_neg h3, countKs_zero ks 0 fun j k hk => by
    rcases h j k hk with h1 | h1
    · exact .inl (by rw [Nat.zero_add]; exact h1)
    · exact .inr (by have := of_decide_eq_false h1; omega)]
  rfl

set_option maxRecDepth 100000 in
set_option maxHeartbeats 16000000 in
theorem l09FreeM (p : GProgram) (name : ByteArray) (f : Nat) (ih : ∀ (t : ExT) (a : Nat), szE t ≤ f → Laid p.nodes a t → okE t = true → ∀ (r : List Value) (lo : Nat) (w : World), GProgram.R lo w r p → Calls Tryz.prog 17 #[.agg r.toArray, .int .i64 (a : Int), .string name] w fun e w' => e = .returned (.bool (freeP name t)) ∧ Below w.heap.size w w') (kd at_ nn : Int) (s : ByteArray) (ks : List ExT) (ps : List GPat) (a : Nat) (hK : Hid (kd = 13)) (hf : szE (.mk kd at_ nn s ks ps) ≤ f + 1) (hl : Laid p.nodes a (.mk kd at_ nn s ks ps)) (hok : okE (.mk kd at_ nn s ks ps) = true) (r : List Value) (lo : Nat) (w : World) (hr : GProgram.R lo w r p) :
    Calls Tryz.prog 17 #[.agg r.toArray, .int .i64 (a : Int), .string name] w fun e w' => e = .returned (.bool (freeP name (.mk kd at_ nn s ks ps))) ∧ Below w.heap.size w w' := by
    have Hr := hr
    obtain ⟨tv, nv, rfl, -, hT, hNs⟩ := hr
    obtain ⟨ta, tc, rfl⟩ := hT.form
    obtain ⟨na, nc, rfl, ul, um, h0⟩ := hNs
    have hhead := hl.head
    have ha := (List.getElem?_eq_some_iff.1 hhead).1
    obtain ⟨b1, o1, x, r1, _, rfl, P1, hx, hr1⟩ := h0.get (Lib.hid rfl) ha
    obtain rfl := Option.some.inj (hhead.symm.trans P1.out)
    obtain ⟨u0, u1, rfl, hwf, hk, hp⟩ := hx
    obtain ⟨ka, kc, rfl, kl, km, k0⟩ := hk
    have hP := hp
    obtain ⟨pa, pc, rfl, pl, pm_, p0⟩ := hp
    dsimp only at kl k0 pl p0 hP hr1 hwf
    have hmk : (plE (a + 1) ks).length = ks.length := plE_len _ _
    obtain ⟨m, hm⟩ : ∃ m, m = ks.length := ⟨_, rfl⟩
    rw [hmk, ← hm] at kl hr1
    obtain ⟨n, hn⟩ : ∃ n, n = p.nodes.length := ⟨_, rfl⟩
    rw [← hn] at ul ha Hr ⊢
    generalize p.types.length = tn at *
    obtain ⟨pm, hpm⟩ : ∃ x, x = ps.length := ⟨_, rfl⟩
    rw [← hpm] at pl hr1
    rw [okE] at hok
    simp only [Bool.and_eq_true, decide_eq_true_eq, List.all_eq_true] at hok
    obtain ⟨⟨hok1, hok2⟩, hok3⟩ := hok
    rw [← hm, ← hpm] at hok1
    have e_0 : w.cell? ⟨b1, o1 + a * 6, none⟩ = some (.int .i64 kd) := by simpa using hr1 0 _ rfl
    have e_1 : w.cell? ⟨b1, o1 + a * 6 + 1, none⟩ = some (.int .i64 at_) := hr1 1 _ rfl
    have e_2 : w.cell? ⟨b1, o1 + a * 6 + 2, none⟩ = some (.int .i64 nn) := hr1 2 _ rfl
    have e_3 : w.cell? ⟨b1, o1 + a * 6 + 3, none⟩ = some (.string s) := hr1 3 _ rfl
    have e_4 : w.cell? ⟨b1, o1 + a * 6 + 4, none⟩ = some (.slice ka m kc) := hr1 4 _ rfl
    have e_5 : w.cell? ⟨b1, o1 + a * 6 + 5, none⟩ = some (.slice pa pm pc) := hr1 5 _ rfl
    have hbb1 := World.block_lt_of_cell? _ _ e_0; dsimp only at hbb1
    have cc : (s.toList == name.toList) = eqS s name := eqS_list s name
    have hvar : kd = 3 → freeP name (.mk kd at_ nn s ks ps) = eqS s name := fun h => by subst h; exact freeP_var _ _ _ _ _ _
    have htrue : kd ≠ 3 → ∀ j k, ks[j]? = some k → bindsP kd s ps j name = false → freeP name k = true → freeP name (.mk kd at_ nn s ks ps) = true := fun h j k h1 h2 h3 => freeP_true h h1 h2 h3
    have hfalse : kd ≠ 3 → (∀ j k, ks[j]? = some k → bindsP kd s ps j name = true ∨ freeP name k = false) → freeP name (.mk kd at_ nn s ks ps) = false := fun h h1 => freeP_false h h1
    have hkid : ∀ j k, ks[j]? = some k → szE k ≤ f ∧ Laid p.nodes (a + 1 + szEs (ks.take j)) k ∧ (plE (a + 1) ks)[j]? = some ((a + 1 + szEs (ks.take j) : Nat) : Int) ∧ okE k = true := fun j k hk => by
      have h1 := hl.kid hk
      have h2 := szEs_mem hk
      rw [szE_mk] at hf
      exact ⟨by omega, h1.1, h1.2, okEs_get hok3 hk⟩
    generalize freeP name (.mk kd at_ nn s ks ps) = res at *
    have kK : ∀ W, Below w.heap.size w W → SlAt IntR 1 lo W ka (plE (a + 1) ks) := fun W hW => k0.below IntR.good hW
    have pK : ∀ W, Below w.heap.size w W → SlAt GPat.R 1 lo W pa ps := fun W hW => p0.below GPat.good hW
    have iF : ∀ k c W, szE k ≤ f → Laid p.nodes c k → okE k = true → Below w.heap.size w W → Calls Tryz.prog 17 #[.agg #[.slice ta tn tc, .slice (some ⟨b1, o1, none⟩) n nc], .int .i64 (c : Int), .string name] W fun e w' => e = .returned (.bool (freeP name k)) ∧ Below W.heap.size W w' := fun k c W h1 h2 h3 hW => ih k c h1 h2 h3 _ lo W (GProgram.good.below Hr hW)
    generalize hqn : eqS s name = qn at *
    clear hr1 hP h0 hT k0 p0 hhead hwf hmk Hr ih
    replace hn := Lib.hid hn; replace hm := Lib.hid hm; replace hpm := Lib.hid hpm; replace hok1 := Lib.hid hok1; replace hok2 := Lib.hid hok2; replace hok3 := Lib.hid hok3; replace hvar := Lib.hid hvar; replace htrue := Lib.hid htrue; replace hfalse := Lib.hid hfalse; replace hkid := Lib.hid hkid; replace kK := Lib.hid kK; replace pK := Lib.hid pK; replace iF := Lib.hid iF; replace hl := Lib.hid hl; replace hqn := Lib.hid hqn
    show Calls Tryz.prog 17 #[.agg #[.slice ta tn tc, .slice (some ⟨b1, o1, none⟩) n nc], .int .i64 (a : Int), .string name] w _
    go_enter Tryz.func17, Tryz.ntmps17
    go_upto_region 1 with fail
    have D : RowAt (w.alloc (.cells #[.slice ta tn tc, .slice (some ⟨b1, o1, none⟩) n nc] 32)) (w.heap.size) 0 [.slice ta tn tc, .slice (some ⟨b1, o1, none⟩) n nc] := RowAt.box w #[.slice ta tn tc, .slice (some ⟨b1, o1, none⟩) n nc] 32
    have hw : Below w.heap.size w (w.alloc (.cells #[.slice ta tn tc, .slice (some ⟨b1, o1, none⟩) n nc] 32)) := by go_grown
    generalize (w.alloc (.cells #[.slice ta tn tc, .slice (some ⟨b1, o1, none⟩) n nc] 32)) = w0 at *
    obtain ⟨d_0, d_1⟩ := D.box2; have hsD := World.block_lt_of_cell? _ _ d_0; dsimp only at hsD
    obtain ⟨f_0, f_1, f_2, f_3, f_4, f_5⟩ : w0.cell? ⟨b1, o1 + a * 6, none⟩ = some (.int .i64 kd) ∧ w0.cell? ⟨b1, o1 + a * 6 + 1, none⟩ = some (.int .i64 at_) ∧ w0.cell? ⟨b1, o1 + a * 6 + 2, none⟩ = some (.int .i64 nn) ∧ w0.cell? ⟨b1, o1 + a * 6 + 3, none⟩ = some (.string s) ∧ w0.cell? ⟨b1, o1 + a * 6 + 4, none⟩ = some (.slice ka m kc) ∧ w0.cell? ⟨b1, o1 + a * 6 + 5, none⟩ = some (.slice pa pm pc) := ⟨cell_below hw e_0, cell_below hw e_1, cell_below hw e_2, cell_below hw e_3, cell_below hw e_4, cell_below hw e_5⟩
    have hbb2 := World.block_lt_of_cell? _ _ f_0; dsimp only at hbb2
    clear e_0 e_1 e_2 e_3 e_4 e_5 hbb1
    go_upto_region 2 with fail
    obtain ⟨w1, hW1⟩ : ∃ W, W = w0.alloc (.cells #[.int .i64 kd, .int .i64 at_, .int .i64 nn, .string s, .slice ka m kc, .slice pa pm pc] 74) := ⟨_, rfl⟩
    rw [← hW1]
    have hb1 : Below w0.heap.size w0 w1 := by rw [hW1]; go_grown
    have E : RowAt w1 w0.heap.size 0 [.int .i64 kd, .int .i64 at_, .int .i64 nn, .string s, .slice ka m kc, .slice pa pm pc] := by rw [hW1]; exact RowAt.box w0 #[_, _, _, _, _, _] _
    have D1 := D.below hb1
    have hw1 := hw.trans (hb1.mono hw.size)
    obtain ⟨eb, heb⟩ : ∃ x, x = w0.heap.size := ⟨_, rfl⟩
    rw [← heb] at E ⊢
    clear hW1 f_0 f_1 f_2 f_3 f_4 f_5 hbb2 d_0 d_1 hsD D hw hb1
    replace heb := Lib.hid heb
    obtain ⟨e_0, e_1, e_2, e_3, e_4, e_5⟩ := E.box6; have hsE := World.block_lt_of_cell? _ _ e_0; dsimp only at hsE; obtain ⟨d1_0, d1_1⟩ := D1.box2; have hsD1 := World.block_lt_of_cell? _ _ d1_0; dsimp only at hsD1
    by_cases h3 : kd = 3
    · have hv := hvar.out h3
      subst hv h3
      clear hvar htrue hfalse hkid
      go_wp2_with fail
      go_returns
      exact ⟨rfl, hw1⟩
    have d3 : (kd == 3) = false := beq_eq_false_iff_ne.2 h3
    replace htrue := Lib.hid (htrue.out h3); replace hfalse := Lib.hid (hfalse.out h3)
    clear hvar
    go_wp2_with fail
    go_loopw [26] (fun ii wr => ∃ j : Nat, j ≤ m ∧ ii = .int .i64 j ∧ Hid (∀ i k, i < j → ks[i]? = some k → bindsP kd s ps i name = true ∨ freeP name k = false) ∧ Below w.heap.size w wr ∧ RowAt wr eb 0 [.int .i64 kd, .int .i64 at_, .int .i64 nn, .string s, .slice ka m kc, .slice pa pm pc] ∧ RowAt wr w.heap.size 0 [.slice ta tn tc, .slice (some ⟨b1, o1, none⟩) n nc]) (fun ii _ => m - (intOf ii).toNat)
    case atStart => exact ⟨0, by omega, rfl, Lib.hid (fun i k h => by omega), hw1, E, D1⟩
    case round =>
      clear e_0 e_1 e_2 e_3 e_4 e_5 hsE d1_0 d1_1 hsD1 E D1 hw1
      obtain ⟨j, hj, rfl, hF, hw, E, D⟩ := hrel
      by_cases hlt : j < m
      · obtain ⟨k, hk⟩ : ∃ k, ks[j]? = some k := ⟨_, List.getElem?_eq_getElem (by have := hm.out; omega)⟩
        obtain ⟨g1, g2, g3, g4⟩ := hkid.out j k hk
        obtain ⟨b2, o2, y, r2, _, rfl, P2, ⟨rfl, -⟩, r2'⟩ := (kK.out _ hw).get (Lib.hid (show m = (plE (a + 1) ks).length by rw [plE_len]; exact hm.out)) hlt
        obtain rfl := Option.some.inj (g3.symm.trans P2.out)
        have q_0 : wr.cell? ⟨b2, o2 + j, none⟩ = some (.int .i64 ((a + 1 + szEs (ks.take j) : Nat) : Int)) := by simpa using r2' 0 _ rfl
        have hq0 := World.block_lt_of_cell? _ _ q_0; dsimp only at hq0
        have cF := fun W (hW : Below wr.heap.size wr W) => iF.out k _ W g1 g2 g4 (hw.trans (hW.mono hw.size))
        have hnext : bindsP kd s ps j name = true ∨ freeP name k = false → ∀ i k', i < j + 1 → ks[i]? = some k' → bindsP kd s ps i name = true ∨ freeP name k' = false := fun h i k' hi hk' => by
          rcases Nat.lt_or_ge i j with h1 | h1
          · exact hF.out i k' h1 hk'
          · obtain rfl : i = j := by omega
            obtain rfl := Option.some.inj (hk.symm.trans hk')
            exact h
        have hyes : bindsP kd s ps j name = false → freeP name k = true → res = true := fun h1 h2 => htrue.out j k hk h1 h2
        have hz := hw.size
        have hq : kd = 13 → 0 < j → ∃ qq rr bq oq, ps[j - 1]? = some qq ∧ GPat.R lo wr rr qq ∧ qq.nodes.length ≤ 600 ∧ pa = some ⟨bq, oq, none⟩ ∧ RowAt wr bq (oq + (j - 1)) rr ∧ j - 1 < pm := fun h1 h2 => by
          have hjp : j - 1 < pm := by have := hok1.out h1; omega
          obtain ⟨bq, oq, qq, rr, _, rfl, P3, hR, r3⟩ := (pK.out _ hw).get (Lib.hid hpm.out) hjp
          exact ⟨qq, rr, bq, oq, P3.out, hR, hok2.out qq (List.mem_of_getElem? P3.out), rfl, by simpa using r3, hjp⟩
        generalize ((a + 1 + szEs (ks.take j) : Nat) : Int) = c at *
        generalize freeP name k = fk at *
        obtain ⟨bd, hbd⟩ : ∃ q, bindsP kd s ps j name = q := ⟨_, rfl⟩
        rw [hbd] at hnext hyes
        have hrel0 : bd = true ∨ fk = false → ∀ W, Below wr.heap.size wr W → ∃ j' : Nat, j' ≤ m ∧ (Value.int .i64 ((j : Int) + 1)) = .int .i64 j' ∧ Hid (∀ i k, i < j' → ks[i]? = some k → bindsP kd s ps i name = true ∨ freeP name k = false) ∧ Below w.heap.size w W ∧ RowAt W eb 0 [.int .i64 kd, .int .i64 at_, .int .i64 nn, .string s, .slice (some ⟨b2, o2, none⟩) m kc, .slice pa pm pc] ∧ RowAt W w.heap.size 0 [.slice ta tn tc, .slice (some ⟨b1, o1, none⟩) n nc] := fun h W hW =>
          ⟨j + 1, by omega, by go_num, Lib.hid (hnext h), hw.trans (hW.mono hz), E.below hW, D.below hW⟩
        have hdone : bd = false → fk = true → ∀ W, Below wr.heap.size wr W → ∀ v : Bool, v = true → (Ending.returned (.bool v)) = .returned (.bool res) ∧ Below w.heap.size w W := fun h1 h2 W hW v hv => ⟨by rw [hyes h1 h2, hv], hw.trans (hW.mono hz)⟩
        clear r2' P2 hnext hyes g1 g2 g3 g4
        replace cF := Lib.hid cF; replace hrel0 := Lib.hid hrel0; replace hdone := Lib.hid hdone; replace hk := Lib.hid hk; replace hq := Lib.hid hq; replace hbd := Lib.hid hbd
        obtain ⟨e_0, e_1, e_2, e_3, e_4, e_5⟩ := E.box6; have hsE := World.block_lt_of_cell? _ _ e_0; dsimp only at hsE; obtain ⟨d_0, d_1⟩ := D.box2; have hsD := World.block_lt_of_cell? _ _ d_0; dsimp only at hsD
        go_upto_region 7 with fail
        go_cut [10] (fun sx wx => sx = .bool (b7P kd qn j) ∧ wx = wr)
        case first =>
          clear cF hrel0 hdone hk hq hbd hF hw E D d_0 d_1 hsD hl hok1 hok2 hok3 hkid kK pK iF htrue hfalse hn hm hpm heb q_0 hq0 kl km pl pm_ ul um hf ha d3
          have hk := hK.out
          have hb7 : b7P kd qn j = false := by unfold b7P; rw [if_neg (by omega), if_neg (by omega)]
          have d5 : (kd == 5) = false := beq_eq_false_iff_ne.2 (by omega)
          have d8 : (kd == 8) = false := beq_eq_false_iff_ne.2 (by omega)
          have d7 : (kd == 7) = false := beq_eq_false_iff_ne.2 (by omega)
          have d15 : (kd == 15) = false := beq_eq_false_iff_ne.2 (by omega)
          clear hk
          replace hb7 := Lib.hid hb7
          go_wp2_with fail
          go_meet
          exact ⟨by rw [hb7.out], rfl⟩
        obtain ⟨rfl, hwc⟩ := hcut
        subst hwc
        by_cases h13 : kd = 13
        · subst h13
          have e7 : b7P 13 qn j = false := rfl
          rw [e7]
          have hb : bd = (decide (0 < j) && anyS (pnames (ps[j - 1]?.getD ⟨[]⟩)) name) := by rw [← hbd.out]; unfold bindsP; rw [if_neg (by omega), if_neg (by omega), if_pos rfl]
          by_cases hj0 : 0 < j
          · obtain ⟨qq, rr, bq, oq, hq1, hq2, hq3, rfl, hq5, hq6⟩ := hq.out rfl hj0
            have dj : decide ((0 : Int) < (j : Int)) = true := decide_eq_true (by omega)
            have ht : ((j : Int) - 1).toNat = j - 1 := by omega
            have cB := fun W (hW : Below wc.heap.size wc W) => l09Binds_c qq hq3 name rr lo W (GPat.good.below hq2 hW)
            have hb2 : bd = anyS (pnames qq) name := by rw [hb, decide_eq_true hj0, hq1]; rfl
            obtain ⟨v0, rfl, -, hS⟩ := hq2
            obtain ⟨qa, qc, rfl⟩ := hS.form
            generalize qq.nodes.length = qm at *
            have p_0 : wc.cell? ⟨bq, oq + (j - 1), none⟩ = some (.slice qa qm qc) := by simpa using hq5 0 _ rfl
            have hbq := World.block_lt_of_cell? _ _ p_0; dsimp only at hbq
            rw [← hb2] at cB
            replace cB : ∀ W, Below wc.heap.size wc W → Calls Tryz.prog 39 #[.agg #[.slice qa qm qc], .string name] W fun e w' => e = .returned (.bool bd) ∧ Below W.heap.size W w' := cB
            clear hb hS hq5 hb2 hq1
            replace cB := Lib.hid cB
            clear hq hbd hF hl hok1 hok2 hok3 hkid kK pK iF htrue hfalse hn heb
            cases bd
            · go_upto_if 95 with (first | (go_at_call 39; (with_reducible refine (cB.out _ (Below.refl _ _)).mono ?_); rintro e w1 ⟨rfl, hb1⟩; have D1 := D.below hb1; obtain ⟨d1_0, d1_1⟩ := D1.box2; have hsD1 := World.block_lt_of_cell? _ _ d1_0; dsimp only at hsD1; clear d_0 d_1 hsD p_0 hbq e_0 e_1 e_2 e_3 e_4 e_5 hsE) | (go_at_call 17; (with_reducible refine (cF.out _ (by first | exact Below.refl _ _ | assumption)).mono ?_); rintro e w2 ⟨rfl, hb2⟩))
              cases fk
              · go_wp2_with fail
                go_roundw
                case rel => exact hrel0.out (.inr (by first | rfl | trivial)) _ (hb1.trans (hb2.mono hb1.size))
                case measure => simp [intOf]; omega
              · go_wp2_with fail
                go_returns
                exact hdone.out (by first | rfl | trivial) (by first | rfl | trivial) _ (hb1.trans (hb2.mono hb1.size)) _ rfl
            · go_wp2_with (go_at_call 39; (with_reducible refine (cB.out _ (Below.refl _ _)).mono ?_); rintro e w1 ⟨rfl, hb1⟩; have D1 := D.below hb1; obtain ⟨d1_0, d1_1⟩ := D1.box2; have hsD1 := World.block_lt_of_cell? _ _ d1_0; dsimp only at hsD1; clear d_0 d_1 hsD p_0 hbq e_0 e_1 e_2 e_3 e_4 e_5 hsE)
              go_roundw
              case rel => exact hrel0.out (.inl (by first | rfl | trivial)) _ hb1
              case measure => simp [intOf]; omega
          · have dj : decide ((0 : Int) < (j : Int)) = false := decide_eq_false (by omega)
            have hb2 : bd = false := by rw [hb, decide_eq_false hj0]; rfl
            clear hb
            subst hb2
            clear hq hbd hF hl hok1 hok2 hok3 hkid kK pK iF htrue hfalse hn heb
            · go_upto_if 95 with (go_at_call 17; (with_reducible refine (cF.out _ (by first | exact Below.refl _ _ | assumption)).mono ?_); rintro e w2 ⟨rfl, hb2⟩)
              cases fk
              · go_wp2_with fail
                go_roundw
                case rel => exact hrel0.out (.inr (by first | rfl | trivial)) _ hb2
                case measure => simp [intOf]; omega
              · go_wp2_with fail
                go_returns
                exact hdone.out (by first | rfl | trivial) (by first | rfl | trivial) _ hb2 _ rfl
        exact absurd hK.out h13
      · obtain rfl : j = m := by omega
        have hr := hfalse.out (fun i k hk => hF.out i k (by have := (List.getElem?_eq_some_iff.1 hk).1; have := hm.out; omega) hk)
        subst hr
        go_wp2_with fail
        go_returns
        exact ⟨rfl, hw⟩
end Go.Proofs.YtaimekaagmcmnaaGreat
