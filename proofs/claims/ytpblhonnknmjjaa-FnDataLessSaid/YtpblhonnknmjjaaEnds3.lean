/- The reference's l07End, in range. -/
import Derived.Test.YtpblhonnknmjjaaEnds2
namespace Go.Proofs.Ytpblhonnknmjjaa
open Go.RowKit
set_option linter.unusedVariables false
set_option linter.unusedSimpArgs false
attribute [local go_sem] Ext.cell

set_option maxRecDepth 100000 in
set_option maxHeartbeats 4000000 in
theorem l07End_c (x : GData) (hL : x.nodes.length ≤ 1152921504606846976) : ∀ (f i : Nat) (r : List Value) (lo : Nat) (w : World), GData.R lo w r x → x.nodes.length < i + f →
    Calls Try.prog 25 #[.agg r.toArray, .int .i64 i] w fun e w' => e = .returned (.int .i64 (ends x.nodes f i)) ∧ Below w.heap.size w w'
  | 0, i, r, lo, w, hx, hf => by rw [ends_out (by omega)]; exact l07End_out x i r lo w hx (by omega)
  | f + 1, i, r, lo, w, hx, hf => by
    have ih := l07End_c x hL f
    have Hx := hx
    obtain ⟨u0, rfl, -, a0⟩ := hx
    obtain ⟨pa, pc, rfl⟩ := a0.form
    by_cases hlt : i < x.nodes.length
    · have d1 : decide ((x.nodes.length : Int) ≤ i) = false := decide_eq_false (by omega)
      have d1' : decide (x.nodes.length ≤ i) = false := decide_eq_false (by omega)
      obtain ⟨pa', pc', he, -, -, h0⟩ := a0
      obtain ⟨rfl, rfl⟩ : pa' = pa ∧ pc' = pc := by injection he with a b c; exact ⟨a.symm, c.symm⟩
      obtain ⟨b1, o1, n, s1, _, rfl, P1, q1, r1⟩ := h0.get (Lib.hid rfl) hlt
      obtain ⟨kv, rfl, -, k0⟩ := q1
      obtain ⟨ka, kc, rfl, kl, km, k0⟩ := k0
      have hends : ends x.nodes (f + 1) i = kidsEnd (ends x.nodes f) (i + 1) n.kids := by conv => lhs; unfold ends; rw [P1.out]
      rw [hends]
      have R1 : w.cell? ⟨b1, o1 + i * 4 + 3, none⟩ = some (.slice ka n.kids.length kc) := by simpa using r1 3 _ rfl
      obtain ⟨m, hm⟩ : ∃ m, m = n.kids.length := ⟨_, rfl⟩
      rw [← hm] at kl R1
      have X1 := Lib.hid hm
      clear hm hends r1 h0
      replace ih := Lib.hid ih
      replace k0 := Lib.hid k0
      go_enter Try.func25, Try.ntmps25
      go_upto_region 1 with fail
      have B : RowAt (w.alloc (.cells #[.slice (some ⟨b1, o1, none⟩) x.nodes.length pc'] 25)) (w.heap.size) 0 [.slice (some ⟨b1, o1, none⟩) x.nodes.length pc'] := RowAt.box w #[.slice (some ⟨b1, o1, none⟩) x.nodes.length pc'] 25
      have hw : Below w.heap.size w (w.alloc (.cells #[.slice (some ⟨b1, o1, none⟩) x.nodes.length pc'] 25)) := by go_grown
      generalize (w.alloc (.cells #[.slice (some ⟨b1, o1, none⟩) x.nodes.length pc'] 25)) = w0 at *
      replace R1 := cell_below hw R1
      have hb0 := B.box1
      go_wp2_with fail
      go_loopw [5, 22] (fun nx ii wr => ∃ (j : Nat) (z : Nat), j ≤ m ∧ i + 1 ≤ z ∧ z ≤ x.nodes.length ∧ nx = .int .i64 z ∧ ii = .int .i64 j ∧ Hid (kidsEnd (ends x.nodes f) (i + 1) n.kids = kidsEnd (ends x.nodes f) z (n.kids.drop j)) ∧ Below w.heap.size w wr ∧ RowAt wr w.heap.size 0 [.slice (some ⟨b1, o1, none⟩) x.nodes.length pc'] ∧ w.heap.size < wr.heap.size) (fun _ ii _ => m - (intOf ii).toNat)
      case atStart => exact ⟨0, i + 1, by omega, by omega, by omega, by simp, rfl, by simp [Hid], hw, B, World.block_lt_of_cell? _ _ hb0⟩
      case round =>
        clear hb0 R1 B hw
        obtain ⟨j, z, hj, hz1, hz2, rfl, rfl, hK, hw, B, hs⟩ := hrel
        have hb0 := B.box1
        by_cases hjm : j < m
        · obtain ⟨b2, o2, k, s2, _, rfl, P2, ⟨rfl, hk64⟩, r2⟩ := ((k0.out.below IntR.good hw).get X1 hjm)
          have e0 : wr.cell? ⟨b2, o2 + j, none⟩ = some (.int .i64 k) := by simpa using r2 0 _ rfl
          have hdrop : n.kids.drop j = k :: n.kids.drop (j + 1) := by
            obtain ⟨hjl, he⟩ := List.getElem?_eq_some_iff.1 P2.out
            rw [List.drop_eq_getElem_cons hjl, he]
          rw [hdrop] at hK
          clear r2 hdrop
          by_cases hkz : k = z
          · subst hkz
            have hK1 : kidsEnd (ends x.nodes f) (z : Int) (((z : Nat) : Int) :: n.kids.drop (j + 1)) = (if ends x.nodes f z < 0 then -1 else kidsEnd (ends x.nodes f) (ends x.nodes f z) (n.kids.drop (j + 1))) := by
              conv => lhs; unfold kidsEnd
              simp
            rw [Hid, hK1] at hK
            replace hK := Lib.hid hK
            clear hK1
            have c1 := fun W hW => ih.out z [.slice (some ⟨b1, o1, none⟩) x.nodes.length pc'] lo W hW (by omega)
            have hr := ends_range x.nodes f z
            generalize ends x.nodes f z = e at *
            replace hr := Lib.hid hr
            have hd : ((z : Int) != z) = false := by simp
            go_wp2_with fail
            refine (c1 _ (GData.good.below Hx hw)).mono ?_
            rintro e' w2 ⟨rfl, hb⟩
            have hw2 := hw.trans (hb.mono hw.size)
            have B2 := B.below hb
            have hs2 := Nat.lt_of_lt_of_le hs hb.size
            clear hb hb0 e0 B hw hs
            by_cases he : e < 0
            · have d2 : decide (e < 0) = true := decide_eq_true he
              rw [Hid, if_pos he] at hK
              replace hK := Lib.hid hK
              clear hr c1 he
              go_wp2
              go_returns
              exact ⟨by rw [hK.out]; rfl, hw2⟩
            · have d2 : decide (e < 0) = false := decide_eq_false he
              rw [Hid, if_neg he] at hK
              have hr' := hr.out (by omega)
              obtain ⟨z', rfl⟩ : ∃ z' : Nat, e = z' := ⟨e.toNat, by omega⟩
              replace hK := Lib.hid hK
              clear hr c1 he
              go_wp2
              go_roundw
              case rel => exact ⟨j + 1, z', by omega, by omega, by omega, rfl, by go_num, hK, hw2, B2, hs2⟩
              case measure => simp [intOf]; omega
          · have hK1 : kidsEnd (ends x.nodes f) (z : Int) (k :: n.kids.drop (j + 1)) = -1 := by
              conv => lhs; unfold kidsEnd
              rw [if_pos hkz]
            rw [Hid, hK1] at hK
            replace hK := Lib.hid hK
            clear hK1
            have hd : (k != (z : Int)) = true := by simpa using hkz
            clear hkz
            go_wp2
            go_returns
            exact ⟨by rw [hK.out]; rfl, hw⟩
        · obtain rfl : j = m := by omega
          rw [Hid, X1.out, List.drop_length] at hK
          replace hK := Lib.hid (hK.trans (by unfold kidsEnd; rfl : _ = (z : Int)))
          go_wp2
          go_returns
          exact ⟨by rw [hK.out]; rfl, hw⟩
    · rw [ends_out (by omega)]; exact l07End_out x i _ lo w Hx (by omega)

end Go.Proofs.Ytpblhonnknmjjaa
