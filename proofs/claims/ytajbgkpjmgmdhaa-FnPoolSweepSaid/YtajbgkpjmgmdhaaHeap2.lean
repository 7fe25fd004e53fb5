/- The reference's test of a cell; membership in a list. -/
import Derived.Test.YtajbgkpjmgmdhaaHeap
namespace Go.Proofs.Ytajbgkpjmgmdhaa
open Go.RowKit
set_option linter.unusedVariables false
set_option linter.unusedSimpArgs false
attribute [local go_sem] Ext.cell

set_option maxHeartbeats 1000000 in
theorem l05Has_c (l : List Int) (u : Value) (lo : Nat) (n : Int) (w : World) (hx : Sl IntR 1 lo w u l) :
    Calls Try.prog 61 #[u, .int .i64 n] w fun e w' => e = .returned (.bool (l.contains n)) ∧ Below w.heap.size w w' := by
  obtain ⟨a, c, rfl, l1, m1, hh⟩ := hx
  obtain ⟨m, hm⟩ : ∃ m, m = l.length := ⟨_, rfl⟩
  rw [← hm] at l1 ⊢
  replace hm := Lib.hid hm
  go_enter Try.func61, Try.ntmps61
  go_wp2_with fail
  go_loopw [9] (fun i wr => ∃ k : Nat, k ≤ m ∧ i = .int .i64 k ∧ Hid (¬ n ∈ l.take k) ∧ Below w.heap.size w wr) (fun i _ => m - (intOf i).toNat)
  case atStart => exact ⟨0, by omega, rfl, by show ¬ _; simp, Below.refl _ _⟩
  case round =>
    obtain ⟨k, hk, rfl, ht, hw⟩ := hrel
    by_cases hlt : k < m
    · obtain ⟨b1, o1, p, s1, _, rfl, P1, ⟨rfl, _⟩, r1⟩ := (hh.below IntR.good hw).get hm hlt
      have R1 : wr.cell? ⟨b1, o1 + k, none⟩ = some (.int .i64 p) := by simpa using r1 0 _ rfl
      clear r1
      cases hd : (p == n)
      · go_wp2
        go_roundw
        case rel =>
          refine ⟨k + 1, by omega, by go_num, ?_, hw⟩
          show ¬ _
          have h1 := ht.out
          rw [take_snoc' P1.out]
          simp at hd ⊢
          exact ⟨h1, fun e => hd e.symm⟩
        case measure => simp [intOf]; omega
      · go_wp2
        go_returns
        refine ⟨?_, hw⟩
        have : n ∈ l := by
          have := List.mem_of_getElem? P1.out
          simp at hd
          exact hd ▸ this
        simp [this]
    · go_wp2
      go_returns
      refine ⟨?_, hw⟩
      obtain rfl : k = m := by omega
      have := ht.out
      rw [take_full hm] at this
      simp [this]

set_option maxHeartbeats 2000000 in
theorem l11Cell_c (x : GCell) (hx : x.wf) (h : List GCell) (u : Value) (lo : Nat) (hl : h.length ≤ 1048576) (w : World) (hu : Sl GCell.R 9 lo w u h) :
    Calls Try.prog 75 #[u, .agg #[.int .i64 x.kind, .int .i64 x.n, .string x.s, .int .i64 x.a.kind, .int .i64 x.a.n, .string x.a.s, .int .i64 x.b.kind, .int .i64 x.b.n, .string x.b.s]] w fun e w' => e = .returned (.bool (cellOk x h.length)) ∧ Below w.heap.size w w' := by
  obtain ⟨k, n, s, ⟨ak, an, az⟩, ⟨bk, bn, bz⟩⟩ := x
  obtain ⟨a, c, rfl⟩ := hu.form
  have han : I64 an := hx.2.2.2.2.1
  have hbn : I64 bn := hx.2.2.2.2.2.2.2.1
  clear hx
  dsimp only
  have va_c := fun (W : World) (hW : Below w.heap.size w W) => l11Val_c ⟨ak, an, az⟩ han h (.slice a h.length c) lo hl W (hu.below GCell.good hW)
  have vb_c := fun (W : World) (hW : Below w.heap.size w W) => l11Val_c ⟨bk, bn, bz⟩ hbn h (.slice a h.length c) lo hl W (hu.below GCell.good hW)
  dsimp only at va_c vb_c
  generalize hva : valOk ⟨ak, an, az⟩ h.length = va at *
  generalize hvb : valOk ⟨bk, bn, bz⟩ h.length = vb at *
  replace hva := Lib.hid hva; replace hvb := Lib.hid hvb; replace va_c := Lib.hid va_c; replace vb_c := Lib.hid vb_c
  go_enter Try.func75, Try.ntmps75
  go_upto_region 2 with fail
  have B : RowAt (w.alloc (.cells #[.int .i64 k, .int .i64 n, .string s, .int .i64 ak, .int .i64 an, .string az, .int .i64 bk, .int .i64 bn, .string bz] 30)) (w.heap.size) 0 [.int .i64 k, .int .i64 n, .string s, .int .i64 ak, .int .i64 an, .string az, .int .i64 bk, .int .i64 bn, .string bz] := RowAt.box w #[.int .i64 k, .int .i64 n, .string s, .int .i64 ak, .int .i64 an, .string az, .int .i64 bk, .int .i64 bn, .string bz] 30
  have B := B.below (show Below (w.alloc (.cells #[.int .i64 k, .int .i64 n, .string s, .int .i64 ak, .int .i64 an, .string az, .int .i64 bk, .int .i64 bn, .string bz] 30)).heap.size (w.alloc (.cells #[.int .i64 k, .int .i64 n, .string s, .int .i64 ak, .int .i64 an, .string az, .int .i64 bk, .int .i64 bn, .string bz] 30)) ((w.alloc (.cells #[.int .i64 k, .int .i64 n, .string s, .int .i64 ak, .int .i64 an, .string az, .int .i64 bk, .int .i64 bn, .string bz] 30)).alloc (.cells #[.int .i64 0, .int .i64 0, .string ⟨#[]⟩] 28)) by go_grown)
  have D : RowAt ((w.alloc (.cells #[.int .i64 k, .int .i64 n, .string s, .int .i64 ak, .int .i64 an, .string az, .int .i64 bk, .int .i64 bn, .string bz] 30)).alloc (.cells #[.int .i64 0, .int .i64 0, .string ⟨#[]⟩] 28)) (w.heap.size + 1) 0 [.int .i64 0, .int .i64 0, .string ⟨#[]⟩] := by have h := RowAt.box (w.alloc (.cells #[.int .i64 k, .int .i64 n, .string s, .int .i64 ak, .int .i64 an, .string az, .int .i64 bk, .int .i64 bn, .string bz] 30)) #[.int .i64 0, .int .i64 0, .string ⟨#[]⟩] 28; simp only [World.size_alloc] at h; exact h
  have hw : Below w.heap.size w ((w.alloc (.cells #[.int .i64 k, .int .i64 n, .string s, .int .i64 ak, .int .i64 an, .string az, .int .i64 bk, .int .i64 bn, .string bz] 30)).alloc (.cells #[.int .i64 0, .int .i64 0, .string ⟨#[]⟩] 28)) := by go_grown
  generalize ((w.alloc (.cells #[.int .i64 k, .int .i64 n, .string s, .int .i64 ak, .int .i64 an, .string az, .int .i64 bk, .int .i64 bn, .string bz] 30)).alloc (.cells #[.int .i64 0, .int .i64 0, .string ⟨#[]⟩] 28)) = w0 at *
  go_upto_region 2 with fail
  go_cut [6] (fun sx wx => sx = .bool (decide (k = 2 ∨ k = 6)) ∧ Below w.heap.size w wx ∧ RowAt wx w.heap.size 0 [.int .i64 k, .int .i64 n, .string s, .int .i64 ak, .int .i64 an, .string az, .int .i64 bk, .int .i64 bn, .string bz] ∧ RowAt wx (w.heap.size + 1) 0 [.int .i64 0, .int .i64 0, .string ⟨#[]⟩])
  case first =>
    obtain ⟨b_0, b_1, b_2, b_3, b_4, b_5, b_6, b_7, b_8⟩ := B.box9; have hsB := World.block_lt_of_cell? _ _ b_0; dsimp only at hsB; obtain ⟨d_0, d_1, d_2⟩ := D.box3; have hsD := World.block_lt_of_cell? _ _ d_0; dsimp only at hsD
    cases h2 : (k == 2) <;> cases h6 : (k == 6)
    all_goals go_wp2_with fail
    all_goals (go_meet; refine ⟨?_, by assumption, by assumption, by assumption⟩; first | rfl | (simp_all [Hid]; done) | (simp_all [Hid] <;> (first | omega | grind)))
  obtain ⟨rfl, hw, B, D⟩ := hcut
  generalize htwo : decide (k = 2 ∨ k = 6) = two
  replace htwo := Lib.hid htwo
  by_cases h1 : k < 1
  · obtain ⟨b_0, b_1, b_2, b_3, b_4, b_5, b_6, b_7, b_8⟩ := B.box9; have hsB := World.block_lt_of_cell? _ _ b_0; dsimp only at hsB; obtain ⟨d_0, d_1, d_2⟩ := D.box3; have hsD := World.block_lt_of_cell? _ _ d_0; dsimp only at hsD
    go_wp2
    all_goals (go_returns; refine ⟨?_, by go_grown⟩; (try clear hc hf); first | rfl | (simp_all [cellOk, Hid]; done) | (simp_all [cellOk, Hid] <;> (first | omega | grind)))
  by_cases h6 : 6 < k
  · obtain ⟨b_0, b_1, b_2, b_3, b_4, b_5, b_6, b_7, b_8⟩ := B.box9; have hsB := World.block_lt_of_cell? _ _ b_0; dsimp only at hsB; obtain ⟨d_0, d_1, d_2⟩ := D.box3; have hsD := World.block_lt_of_cell? _ _ d_0; dsimp only at hsD
    go_wp2
    all_goals (go_returns; refine ⟨?_, by go_grown⟩; (try clear hc hf); first | rfl | (simp_all [cellOk, Hid]; done) | (simp_all [cellOk, Hid] <;> (first | omega | grind)))
  cases va
  · obtain ⟨b_0, b_1, b_2, b_3, b_4, b_5, b_6, b_7, b_8⟩ := B.box9; have hsB := World.block_lt_of_cell? _ _ b_0; dsimp only at hsB; obtain ⟨d_0, d_1, d_2⟩ := D.box3; have hsD := World.block_lt_of_cell? _ _ d_0; dsimp only at hsD
    go_wp2_with (go_at_call 86; ((with_reducible refine (va_c.out _ hw).mono ?_); rintro e w1 ⟨rfl, hb⟩; have hw := hw.trans (hb.mono hw.size); have B := B.below hb; obtain ⟨b_0, b_1, b_2, b_3, b_4, b_5, b_6, b_7, b_8⟩ := B.box9; have hsB := World.block_lt_of_cell? _ _ b_0; dsimp only at hsB; have D := D.below hb; obtain ⟨d_0, d_1, d_2⟩ := D.box3; have hsD := World.block_lt_of_cell? _ _ d_0; dsimp only at hsD; clear hb))
    all_goals (go_returns; refine ⟨?_, by go_grown⟩; (try clear hc hf); first | rfl | (simp_all [cellOk, Hid]; done) | (simp_all [cellOk, Hid] <;> (first | omega | grind)))
  go_upto_region 3 with fail
  go_cut [51] (fun sx wx => sx = .bool (!(if two then vb else zeroVal ⟨bk, bn, bz⟩)) ∧ Below w.heap.size w wx ∧ RowAt wx w.heap.size 0 [.int .i64 k, .int .i64 n, .string s, .int .i64 ak, .int .i64 an, .string az, .int .i64 bk, .int .i64 bn, .string bz] ∧ RowAt wx (w.heap.size + 1) 0 [.int .i64 0, .int .i64 0, .string ⟨#[]⟩])
  case first =>
    obtain ⟨b_0, b_1, b_2, b_3, b_4, b_5, b_6, b_7, b_8⟩ := B.box9; have hsB := World.block_lt_of_cell? _ _ b_0; dsimp only at hsB; obtain ⟨d_0, d_1, d_2⟩ := D.box3; have hsD := World.block_lt_of_cell? _ _ d_0; dsimp only at hsD
    cases two <;> cases e1 : (bk == 0) <;> cases e2 : (bn == 0) <;> cases e3 : bz.toList.isEmpty
    all_goals go_wp2_with (first | (go_at_call 86; ((with_reducible refine (va_c.out _ hw).mono ?_); rintro e w1 ⟨rfl, hb⟩; have hw := hw.trans (hb.mono hw.size); have B := B.below hb; obtain ⟨b_0, b_1, b_2, b_3, b_4, b_5, b_6, b_7, b_8⟩ := B.box9; have hsB := World.block_lt_of_cell? _ _ b_0; dsimp only at hsB; have D := D.below hb; obtain ⟨d_0, d_1, d_2⟩ := D.box3; have hsD := World.block_lt_of_cell? _ _ d_0; dsimp only at hsD; clear hb)) | (go_at_call 86; ((with_reducible refine (vb_c.out _ hw).mono ?_); rintro e w1 ⟨rfl, hb⟩; have hw := hw.trans (hb.mono hw.size); have B := B.below hb; obtain ⟨b_0, b_1, b_2, b_3, b_4, b_5, b_6, b_7, b_8⟩ := B.box9; have hsB := World.block_lt_of_cell? _ _ b_0; dsimp only at hsB; have D := D.below hb; obtain ⟨d_0, d_1, d_2⟩ := D.box3; have hsD := World.block_lt_of_cell? _ _ d_0; dsimp only at hsD; clear hb)))
    all_goals (go_meet; refine ⟨?_, by assumption, by assumption, by assumption⟩; first | rfl | (simp_all [Hid, zeroVal]; done) | (simp_all [Hid, zeroVal] <;> (first | omega | grind)))
  obtain ⟨rfl, hw, B, D⟩ := hcut
  generalize hq : (if two then vb else zeroVal ⟨bk, bn, bz⟩) = q
  replace hq := Lib.hid hq
  cases q
  · go_wp2
    all_goals (go_returns; refine ⟨?_, by go_grown⟩; (try clear hc hf); first | rfl | (simp_all [cellOk, Hid]; done) | (simp_all [cellOk, Hid] <;> (first | omega | grind)))
  obtain ⟨b_0, b_1, b_2, b_3, b_4, b_5, b_6, b_7, b_8⟩ := B.box9; have hsB := World.block_lt_of_cell? _ _ b_0; dsimp only at hsB; obtain ⟨d_0, d_1, d_2⟩ := D.box3; have hsD := World.block_lt_of_cell? _ _ d_0; dsimp only at hsD
  go_wp2
  all_goals (go_returns; refine ⟨?_, by go_grown⟩; (try clear hc hf); first | rfl | (simp_all [cellOk, Hid]; done) | (simp_all [cellOk, Hid] <;> (first | omega | grind)))
end Go.Proofs.Ytajbgkpjmgmdhaa
