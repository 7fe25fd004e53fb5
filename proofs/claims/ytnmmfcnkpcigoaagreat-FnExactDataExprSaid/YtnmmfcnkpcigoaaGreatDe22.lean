/- Parts of the proof, merged: Dx2. -/
import Derived.Test.YtnmmfcnkpcigoaaGreatDe21
/- The program's dataExpr: its walk. -/
namespace Go.Proofs.YtnmmfcnkpcigoaaGreat
open Go.RowKit
set_option linter.unusedVariables false
set_option linter.unusedSimpArgs false
attribute [local go_sem] Ext.cell

theorem info_ex : (Tryz.prog.info? 54).map (fun i => (i.zero, i.size, i.bytes)) = some (some (.pointer none), 1, 8) := by kernel_rfl
/-- A tree as right values give. -/
def DOk : Nat → PxT → Prop
  | 0, _ => False
  | f + 1, t => (2 ≤ t.kind ∧ t.kind ≤ 6) ∧ (-4611686018427387904 ≤ t.n ∧ t.n ≤ 4611686018427387904) ∧ t.kids.length ≤ 2 ∧ ∀ k ∈ t.kids, DOk f k
def DxPost (f : Nat) (w : World) (o : Option ExT) (e : Ending) (w' : World) : Prop :=
  Below w.heap.size w w' ∧ ((∃ x q, o = some x ∧ e = .returned (.tuple #[.pointer (some ⟨q, 0, none⟩), .bool true]) ∧ ExR (f + 1) (fun b => w.heap.size ≤ b) w' (.pointer (some ⟨q, 0, none⟩)) x) ∨ ∃ v, o = none ∧ e = .returned (.tuple #[.pointer v, .bool false]))

theorem ewf {k a n : Int} {s : ByteArray} {ks : List ExT} {ps : List GPat} (h1 : I64 k) (h2 : I64 a) (h3 : I64 n) (h4 : StrOk s) : (ExT.mk k a n s ks ps).wf := ⟨h1, h2, h3, h4⟩
theorem i64_0 : I64 0 := ⟨by decide, by decide⟩
theorem i64_1 : I64 1 := ⟨by decide, by decide⟩
theorem i64_10 : I64 10 := ⟨by decide, by decide⟩
theorem strOk_nil : StrOk ⟨#[]⟩ := by unfold StrOk; decide
theorem strOk_minus : StrOk eMinus := by unfold StrOk eMinus; decide
theorem box_two (w : World) (c1 c2 : List Value) (t t' : TypeId) : RowAt ((w.alloc (.cells c1.toArray t)).alloc (.cells c2.toArray t')) w.heap.size 0 c1 ∧ RowAt ((w.alloc (.cells c1.toArray t)).alloc (.cells c2.toArray t')) (w.heap.size + 1) 0 c2 := by
  have h1 := RowAt.box w c1.toArray t
  have h2 := RowAt.box (w.alloc (.cells c1.toArray t)) c2.toArray t'
  simp only [World.size_alloc] at h2
  exact ⟨by simpa using h1.below (show Below (w.alloc (.cells c1.toArray t)).heap.size _ _ by go_grown), by simpa using h2⟩

set_option maxRecDepth 100000 in
set_option maxHeartbeats 16000000 in
theorem dataExpr_c : ∀ (f : Nat) (t : PxT) (A : Nat → Prop) (pv : Value) (w : World), PxR f A w pv t → DOk f t → Calls Tryz.prog 20 #[pv] w (DxPost f w (dExpr t))
  | 0, t, A, pv, w, h, _ => absurd h (by simp [PxR])
  | f + 1, t, A, pv, w, h, hD => by
    have ih := dataExpr_c f
    obtain ⟨b, ka, kc, rfl, hAb, hwf, hr, kl, km, hk⟩ := h
    obtain ⟨kd, nn, s, ks⟩ := t
    obtain ⟨⟨hk2, hk6⟩, ⟨hn1, hn2⟩, hk3, hkD⟩ := hD
    simp only [PxT.kind, PxT.n, PxT.s, PxT.kids] at *
    have hdx := dExpr_mk kd nn s ks
    have hss : StrOk s := hwf.2.2
    have hn64 : I64 nn := hwf.2.1
    generalize dExpr (.mk kd nn s ks) = o at *
    obtain ⟨m, hm⟩ : ∃ m, m = ks.length := ⟨_, rfl⟩
    rw [← hm] at kl hk hr hk3
    obtain ⟨r_0, r_1, r_2, r_3⟩ := hr.box4
    have hbl := World.block_lt_of_cell? _ _ r_0; dsimp only at hbl
    replace hm := Lib.hid hm; replace ih := Lib.hid ih; replace hk := Lib.hid hk; replace hkD := Lib.hid hkD; replace hdx := Lib.hid hdx
    obtain ⟨iJ, hi0, hz0, hz1, hz2⟩ := info_parts info_ex; have IJ := Lib.hid hi0; have IJ0 := Lib.hid hz0; have IJ1 := Lib.hid hz1; have IJ2 := Lib.hid hz2; clear hi0 hz0 hz1 hz2
    have hkw : I64 (dKind kd) := by unfold dKind; constructor <;> (split <;> (try split) <;> (try split) <;> (try split) <;> omega)
    go_enter Tryz.func20, Tryz.ntmps20
    go_upto_region 2 with fail
    obtain ⟨w1, hW1⟩ : ∃ W, W = w.alloc (.cells #[.int .i64 0, .int .i64 0, .int .i64 2, .int .i64 1, .int .i64 4, .int .i64 11, .int .i64 12] 3) := ⟨_, rfl⟩
    rw [← hW1]
    have hb1 : Below w.heap.size w w1 := by rw [hW1]; go_grown
    have hs1 : w1.heap.size = w.heap.size + 1 := by rw [hW1]; simp
    have K1 : RowAt w1 w.heap.size 0 [.int .i64 0, .int .i64 0, .int .i64 2, .int .i64 1, .int .i64 4, .int .i64 11, .int .i64 12] := by rw [hW1]; exact RowAt.box _ _ _
    have hr1 := hr.below hb1
    clear r_0 r_1 r_2 r_3 hW1
    go_cut [5] (fun sx wx => sx = .pointer (some ⟨w.heap.size + 1, 0, none⟩) ∧ Below w.heap.size w wx ∧ RowAt wx (w.heap.size + 1) 0 [.int .i64 (dKind kd), .int .i64 0, .int .i64 nn, .string s, .slice none 0 0, .slice none 0 0] ∧ Wr wx (w.heap.size + 1) 0 6)
    case first =>
      obtain ⟨r_0, r_1, r_2, r_3⟩ := hr1.box4
      have hbl1 := World.block_lt_of_cell? _ _ r_0; dsimp only at hbl1
      obtain ⟨jk, hjk⟩ : ∃ j : Nat, kd = j := ⟨kd.toNat, by omega⟩
      have k_j : w1.cell? ⟨w.heap.size, jk, none⟩ = some (.int .i64 (dKind kd)) := by
        have hkk : jk = 2 ∨ jk = 3 ∨ jk = 4 ∨ jk = 5 ∨ jk = 6 := by omega
        subst hjk
        rcases hkk with rfl | rfl | rfl | rfl | rfl
        · have h := K1 2 _ rfl; rw [Nat.zero_add] at h; exact h
        · have h := K1 3 _ rfl; rw [Nat.zero_add] at h; exact h
        · have h := K1 4 _ rfl; rw [Nat.zero_add] at h; exact h
        · have h := K1 5 _ rfl; rw [Nat.zero_add] at h; exact h
        · have h := K1 6 _ rfl; rw [Nat.zero_add] at h; exact h
      generalize dKind kd = dk at *
      subst hjk
      have q1 : decide ((jk : Int) < 7) = true := decide_eq_true (by omega)
      have q1' : decide (jk < 7) = true := decide_eq_true (by omega)
      have q2 : jk < 7 := by omega
      have q3 : (jk : Int) < 7 := by omega
      go_region_held3 (fun w' => w'.cell? ⟨b, 0, none⟩ = some (.int .i64 (jk : Int)) ∧ w'.cell? ⟨b, 1, none⟩ = some (.int .i64 nn) ∧ w'.cell? ⟨b, 2, none⟩ = some (.string s) ∧ w'.cell? ⟨w.heap.size, jk, none⟩ = some (.int .i64 dk)) (first | exact ⟨r_0, r_1, r_2, k_j⟩ | go_keep) (fail)
      all_goals go_wp2_with fail
      all_goals go_meet
      all_goals
        have hB := RowAt.box w1 #[.int .i64 dk, .int .i64 0, .int .i64 nn, .string s, .slice none 0 0, .slice none 0 0] 96
        have hBW := Wr.box w1 #[.int .i64 dk, .int .i64 0, .int .i64 nn, .string s, .slice none 0 0, .slice none 0 0] 96
        rw [hs1] at hB hBW
        exact ⟨rfl, by go_grown, hB, hBW⟩
    obtain ⟨w2, hw2⟩ : ∃ W, W = wc := ⟨_, rfl⟩
    subst hw2
    obtain ⟨rfl, hw, O, OW⟩ := hcut
    have hr2 := hr.below hw
    have hz2 := hw.size
    clear hr1 K1 hb1 hs1
    obtain ⟨r_0, r_1, r_2, r_3⟩ := hr2.box4
    have hbl2 := World.block_lt_of_cell? _ _ r_0; dsimp only at hbl2
    have hsO : w.heap.size + 1 < w2.heap.size := World.block_lt_of_cell? _ _ O.box6.1
    by_cases hneg : nn < 0
    · have d1 : decide (nn < 0) = true := decide_eq_true hneg
      have hwr : IntKind.i64.wrap (-nn) = -nn := IntWalk.i64_in _ (by omega)
      go_upto_region 4 with fail
      go_cut [6, 7] (fun s6 s7 wx => ∃ b1 b2 : Nat, s6 = .pointer (some ⟨b1, 0, none⟩) ∧ s7 = .pointer (some ⟨b2, 0, none⟩) ∧ w.heap.size ≤ b1 ∧ w.heap.size ≤ b2 ∧ Below w.heap.size w wx ∧ RowAt wx b1 0 [.int .i64 1, .int .i64 0, .int .i64 0, .string ⟨#[]⟩, .slice none 0 0, .slice none 0 0] ∧ RowAt wx b2 0 [.int .i64 1, .int .i64 0, .int .i64 (-nn), .string ⟨#[]⟩, .slice none 0 0, .slice none 0 0])
      case first =>
        go_region_law (fail)
        all_goals go_wp2_with fail
        all_goals go_meet
        all_goals
          have hab := box_two w2 [.int .i64 1, .int .i64 0, .int .i64 0, .string ⟨#[]⟩, .slice none 0 0, .slice none 0 0] [.int .i64 1, .int .i64 0, .int .i64 (-nn), .string ⟨#[]⟩, .slice none 0 0, .slice none 0 0] 96 96
          have hba := box_two w2 [.int .i64 1, .int .i64 0, .int .i64 (-nn), .string ⟨#[]⟩, .slice none 0 0, .slice none 0 0] [.int .i64 1, .int .i64 0, .int .i64 0, .string ⟨#[]⟩, .slice none 0 0, .slice none 0 0] 96 96
          first
            | exact ⟨w2.heap.size, w2.heap.size + 1, rfl, rfl, by omega, by omega, hw.trans (Below.mono (by go_grown) hz2), hab.1, hab.2⟩
            | exact ⟨w2.heap.size + 1, w2.heap.size, rfl, rfl, by omega, by omega, hw.trans (Below.mono (by go_grown) hz2), hba.2, hba.1⟩
      obtain ⟨w3, hw3⟩ : ∃ W, W = wc := ⟨_, rfl⟩
      subst hw3
      obtain ⟨b1, b2, rfl, rfl, hb1, hb2, hw, B1, B2⟩ := hcut
      have hr3 := hr.below hw
      have hz3 := hw.size
      clear r_0 r_1 r_2 r_3 hr2 hbl2 hsO O OW hz2
      obtain ⟨r_0, r_1, r_2, r_3⟩ := hr3.box4
      have hbl3 := World.block_lt_of_cell? _ _ r_0; dsimp only at hbl3
      have hs1 : b1 < w3.heap.size := World.block_lt_of_cell? _ _ B1.box6.1
      have hs2 : b2 < w3.heap.size := World.block_lt_of_cell? _ _ B2.box6.1
      go_upto_region 5 with fail
      go_region_held3 (fun w' => w'.cell? ⟨b, 1, none⟩ = some (.int .i64 nn)) (first | exact r_1 | go_keep) (fail)
      replace B1 := Lib.hid B1; replace B2 := Lib.hid B2
      go_wp2_with fail
      go_returns
      have hNN := box_two w3 [.pointer (some ⟨b1, 0, none⟩), .pointer (some ⟨b2, 0, none⟩)] [.int .i64 10, .int .i64 0, .int .i64 0, .string ⟨#[45]⟩, .slice (some ⟨w3.heap.size, 0, none⟩) 2 2, .slice none 0 0] 54 96
      obtain ⟨W, hW⟩ : ∃ W, W = (w3.alloc (.cells #[.pointer (some ⟨b1, 0, none⟩), .pointer (some ⟨b2, 0, none⟩)] 54)).alloc (.cells #[.int .i64 10, .int .i64 0, .int .i64 0, .string ⟨#[45]⟩, .slice (some ⟨w3.heap.size, 0, none⟩) 2 2, .slice none 0 0] 96) := ⟨_, rfl⟩
      have hbW : Below w3.heap.size w3 W.drew := by rw [hW]; go_grown
      rw [← hW] at hNN ⊢
      have hN1 : RowAt W.drew w3.heap.size 0 [.pointer (some ⟨b1, 0, none⟩), .pointer (some ⟨b2, 0, none⟩)] := hNN.1
      have hN2 : RowAt W.drew (w3.heap.size + 1) 0 [.int .i64 10, .int .i64 0, .int .i64 0, .string ⟨#[45]⟩, .slice (some ⟨w3.heap.size, 0, none⟩) 2 2, .slice none 0 0] := hNN.2
      clear hNN
      clear hW
      generalize W.drew = W' at *
      refine ⟨hw.trans (hbW.mono hz3), ?_⟩
      have hx1 : ExR 1 (fun b => w.heap.size ≤ b) W' (.pointer (some ⟨b1, 0, none⟩)) (eLeaf 1 0 ⟨#[]⟩) := ExR.leaf hb1 (ewf i64_1 i64_0 i64_0 strOk_nil) (Nat.zero_le _) (B1.out.below hbW)
      have hx2 : ExR 1 (fun b => w.heap.size ≤ b) W' (.pointer (some ⟨b2, 0, none⟩)) (eLeaf 1 (-nn) ⟨#[]⟩) := ExR.leaf hb2 (ewf i64_1 i64_0 ⟨by omega, by omega⟩ strOk_nil) (Nat.zero_le _) (B2.out.below hbW)
      by_cases hmin : nn = -4611686018427387904
      · refine .inr ⟨some ⟨w3.heap.size + 1, 0, none⟩, by rw [hdx.out, if_pos hneg, if_pos hmin], ?_⟩
        subst hmin
        rfl
      · refine .inl ⟨eNeg nn, w3.heap.size + 1, by rw [hdx.out, if_pos hneg, if_neg hmin], ?_, ?_⟩
        · have : (nn != -4611686018427387904) = true := by simpa using hmin
          show Ending.returned (Value.tuple #[Value.pointer (some ⟨w3.heap.size + 1, 0, none⟩), Value.bool (nn != -4611686018427387904)]) = _
          rw [this]
        · refine ExR.mono (f := 2) (ExR.node (g := w3.heap.size) (c := 2) (vs := [.pointer (some ⟨b1, 0, none⟩), .pointer (some ⟨b2, 0, none⟩)]) (by show w.heap.size ≤ _; omega) hz3 (ewf i64_10 i64_0 i64_0 strOk_minus) hN2 (Nat.le_refl _) (by decide) hN1 rfl fun i p t h1 h2 => ?_) (by omega)
          match i, h1, h2 with
          | 0, h1, h2 => simp at h1 h2; subst h1; subst h2; exact hx1
          | 1, h1, h2 => simp at h1 h2; subst h1; subst h2; exact hx2
          | i + 2, h1, _ => simp at h1
    · have d1 : decide (nn < 0) = false := decide_eq_false hneg
      have hdx2 : o = (dExprs ks).map fun xs => .mk (dKind kd) 0 nn s xs [] := by rw [hdx.out, if_neg hneg]
      clear hdx
      replace hdx2 := Lib.hid hdx2
      obtain ⟨o_0, o_1, o_2, o_3, o_4, o_5⟩ := O.box6
      go_wp2_with fail
      clear o_0 o_1 o_2 o_3 o_4 o_5
      go_loopw [59] (fun ii wr => ∃ (j : Nat) (vs : List Value) (v : Value) (xs : List ExT), j ≤ m ∧ ii = .int .i64 j ∧ Below w.heap.size w wr ∧ RowAt wr (w.heap.size + 1) 0 [.int .i64 (dKind kd), .int .i64 0, .int .i64 nn, .string s, v, .slice none 0 0] ∧ Wr wr (w.heap.size + 1) 0 6 ∧
          Hid (dExprs (ks.take j) = some xs) ∧ Hid (KidsE wr (w.heap.size + 2) 54 (f + 1) vs xs v) ∧ w.heap.size + 2 ≤ wr.heap.size) (fun ii _ => m - (intOf ii).toNat)
      case atStart => exact ⟨0, [], _, [], by omega, rfl, hw, O, OW, by show dExprs (ks.take 0) = some []; rw [List.take_zero, dExprs], KidsE.nil _ _ _ _, hsO⟩
      case round =>
        clear O OW hw hsO r_0 r_1 r_2 r_3 hr2 hbl2 hz2
        obtain ⟨j, vs, v, xs, hj, rfl, hw, O, OW, hX, hK, hz⟩ := hrel
        obtain ⟨ma, mcap, rfl⟩ := hK.out.form
        have hxl : xs.length = j := by have h := dExprs_len _ _ hX.out; rw [List.length_take] at h; have := hm.out; omega
        rw [hxl] at O hK
        obtain ⟨o_0, o_1, o_2, o_3, o_4, o_5⟩ := O.box6
        have f_4 := OW.frz 4 (by omega)
        have hbO := World.block_lt_of_cell? _ _ o_0; dsimp only at hbO
        by_cases hjm : j < m
        · obtain ⟨g1, o1, rfl, hA1, hkk⟩ := hk.out (by omega)
          obtain ⟨k, hkj⟩ : ∃ k, ks[j]? = some k := ⟨_, List.getElem?_eq_getElem (by have := hm.out; omega)⟩
          obtain ⟨q, hq, hP⟩ := hkk j k hkj
          have e_0 := cell_below hw hq
          have hbg := World.block_lt_of_cell? _ _ e_0; dsimp only at hbg
          have hP' := hP.below hw
          have hc := fun W (hW : Below wr.heap.size wr W) => ih.out k A q W (hP'.below hW) (hkD.out k (List.mem_of_getElem? hkj))
          obtain ⟨qb, rfl⟩ := hP.form
          have htk := take_snoc' hkj
          have hX1 : dExprs (ks.take (j + 1)) = (dExpr k).map fun x => xs ++ [x] := by
            rw [htk, dExprs_append, hX.out]
            simp only [dExprs, Option.bind_some]
            cases dExpr k <;> rfl
          have hXn : dExpr k = none → o = none := fun h => by
            rw [h] at hX1
            have h2 : dExprs ks = none := by
              conv => lhs; rw [← List.take_append_drop (j + 1) ks]
              rw [dExprs_append, hX1]; rfl
            rw [hdx2.out, h2]; rfl
          have hown0 : wr.ownsRow (w.heap.size + 2) 54 1 (.slice ma j mcap) j vs := by have h := hK.out.2.1; rw [hxl] at h; exact h
          clear hkk hP hP' hq
          replace hc := Lib.hid hc; replace hX1 := Lib.hid hX1; replace hXn := Lib.hid hXn; replace hkj := Lib.hid hkj; replace htk := Lib.hid htk; replace hown0 := Lib.hid hown0; replace hxl := Lib.hid hxl
          go_upto_region 10 with (go_at_call 20; (with_reducible refine (hc.out _ (Below.refl _ _)).mono ?_); rintro e w7 ⟨hb7, hE⟩; rcases hE with ⟨x, qx, hx, rfl, hR⟩ | ⟨vx, hx, rfl⟩)
          · have hz7 := hb7.size
            have O7 := O.below hb7
            have OW7 := OW.below hb7
            have hXj : dExprs (ks.take (j + 1)) = some (xs ++ [x]) := by rw [hX1.out, hx]; rfl
            have hw7 := hw.trans (hb7.mono hw.size)
            clear o_0 o_1 o_2 o_3 o_4 o_5 f_4 hbO e_0 hbg
            obtain ⟨o_0, o_1, o_2, o_3, o_4, o_5⟩ := O7.box6
            have f_4 := OW7.frz 4 (by omega)
            have hbO := World.block_lt_of_cell? _ _ o_0; dsimp only at hbO
            replace hXj := Lib.hid hXj; replace hx := Lib.hid hx
            go_wp2_with ((at_builtin; refine wpList_append_lies _ rfl _ _ _ rfl (w.heap.size + 2) 54 iJ _ 1 8 Tryz.underlying94 IJ.out IJ0.out IJ1.out IJ2.out rfl (by omega) (.slice ma j mcap) (j) (vs) rfl (own_below hown0.out (hb7.trans (Below.mono (by go_grown) hz7))) ⟨w7.heap.size, 0, none⟩ 1 1 [.pointer (some ⟨qx, 0, none⟩)] rfl rfl (World.news_of_block (cs := #[.pointer (some ⟨qx, 0, none⟩)]) (t := 54) (fr := (0, 0)) (heap_alloc_new' _ _ _ (by simp))) (by intro u hu; simp at hu; (first | (subst hu; rfl) | (rcases hu with rfl | rfl | rfl | rfl <;> rfl) | (rcases hu with rfl | rfl | rfl | rfl | rfl | rfl <;> rfl) | (rcases hu with rfl | rfl | rfl | rfl | rfl | rfl | rfl <;> rfl) | (rcases hu with rfl | rfl | rfl | rfl | rfl | rfl | rfl | rfl | rfl <;> rfl))) (by omega) (by unfold maxLen; omega) (by omega) (by simp; omega) _ rfl ?_; intro g2 cap2 w8 hown hgrow hat hlt2); have k8 := kept_of hgrow (w := w7) (by go_grown); have hne8 : ¬ some (w.heap.size + 1) = (Value.slice ma j mcap).ownBlock := (fun e => by have := (own_base hown0.out _ e.symm).1; omega); have O8 := O7.kept k8 hne8; have OW8 := OW7.kept k8 hne8; obtain ⟨p_0, p_1, p_2, p_3, p_4, p_5⟩ := O8.box6; have f8 := OW8.frz 4 (by omega); have hbO8 := World.block_lt_of_cell? _ _ p_0; dsimp only at hbO8)
            have hK8 := (KidsE.grow hK.out hz hb7 (show Below w7.heap.size w7 (w7.alloc (.cells #[.pointer (some ⟨qx, 0, none⟩)] 54)) by go_grown) hR hgrow hown (by rw [hxl.out]) (by simpa using hat)).set (b := w.heap.size + 1) (o := 4) (by omega) (.slice (some ⟨g2, 0, none⟩) (j + 1) cap2)
            have hB8 : Below w.heap.size w w8 := hw.trans ((below_grown2 (wr := wr) (base := w.heap.size + 2) hgrow (hb7.trans (Below.mono (by go_grown) hz7)) (Below.refl _ wr) hz hown0.out).mono (by omega))
            have hO8 : RowAt (w8.setCell ⟨w.heap.size + 1, 4, none⟩ (.slice (some ⟨g2, 0, none⟩) (j + 1) cap2)) (w.heap.size + 1) 0 [.int .i64 (dKind kd), .int .i64 0, .int .i64 nn, .string s, .slice (some ⟨g2, 0, none⟩) (j + 1) cap2, .slice none 0 0] := O8.putAt (j := 4) (by simp) (.slice (some ⟨g2, 0, none⟩) (j + 1) cap2)
            have hOW8 := OW8.set 4 (.slice (some ⟨g2, 0, none⟩) (j + 1) cap2)
            have hz8 := hgrow.size
            simp only [World.size_alloc] at hz8
            go_roundw
            case rel => exact ⟨j + 1, _, .slice (some ⟨g2, 0, none⟩) (j + 1) cap2, _, by omega, by go_num, hB8.setCell (p := ⟨w.heap.size + 1, 4, none⟩) (by simp) _, hO8, hOW8, hXj, hK8, by simp [World.setCell]; omega⟩
            case measure => simp [intOf]; omega
          · have ho := hXn.out hx
            replace ho := Lib.hid ho; replace hx := Lib.hid hx
            go_wp2_with fail
            go_returns
            exact ⟨hw.trans (hb7.mono hw.size), .inr ⟨_, ho.out, rfl⟩⟩
        · obtain rfl : j = m := by omega
          have hfull : ks.take j = ks := List.take_of_length_le (by have := hm.out; omega)
          rw [hfull] at hX
          have ho : o = some (.mk (dKind kd) 0 nn s xs []) := by rw [hdx2.out, hX.out]; rfl
          have hT : ExR (f + 1 + 1) (fun b => w.heap.size ≤ b) wr (.pointer (some ⟨w.heap.size + 1, 0, none⟩)) (.mk (dKind kd) 0 nn s xs []) :=
            KidsE.tree (lo := w.heap.size) (b := w.heap.size + 1) (base := w.heap.size + 2) hK.out (by omega) (by omega) (ewf hkw i64_0 hn64 hss) O
          replace ho := Lib.hid ho; replace hT := Lib.hid hT
          clear hK O hX
          go_wp2_with fail
          go_returns
          exact ⟨hw, .inl ⟨_, _, ho.out, rfl, hT.out⟩⟩
end Go.Proofs.YtnmmfcnkpcigoaaGreat
