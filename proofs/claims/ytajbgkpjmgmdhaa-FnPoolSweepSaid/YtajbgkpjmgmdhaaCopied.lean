/- copied: the order of the places that one comes to, and the new place of each. -/
import Derived.Test.YtajbgkpjmgmdhaaMeet
import Derived.OwnWalk
namespace Go.Proofs.Ytajbgkpjmgmdhaa
open Go.RowKit
set_option linter.unusedVariables false
set_option linter.unusedSimpArgs false
attribute [local go_sem] Ext.cell

theorem meet_w (v : GVal) (s : BfsS) (bA bO ga n : Nat) (hn : n ≤ 1048576) (hv : IsCell n v) (hle : s.1.length ≤ n) {w wr W : World} (hw : Below w.heap.size w wr) (hz : w.heap.size < wr.heap.size) (M : MSt w.heap.size wr bA bO ga n s) (hW : Below wr.heap.size wr W) :
    Calls Try.prog 79 #[.agg #[.int .i64 v.kind, .int .i64 v.n, .string v.s], .pointer (some ⟨bA, 0, none⟩), .pointer (some ⟨bO, 0, none⟩)] W fun e w' => (∃ u, e = .returned u) ∧ MSt w.heap.size w' bA bO ga n (meetP s v) ∧ Below w.heap.size w w' ∧ w.heap.size < w'.heap.size := by
  have hs := hW.size
  exact (meet_c v s w.heap.size bA bO ga n hn hv hle W (M.below hW) (by omega)).mono fun e w' ⟨h1, h2, h3⟩ => ⟨h1, h2, (hw.trans (hW.mono hw.size)).trans h3, by have := h3.size; omega⟩

set_option maxRecDepth 100000 in
set_option maxHeartbeats 4000000 in
theorem copied_c (h : List GCell) (roots : List GVal) (u0 u1 : Value) (lo0 lo1 : Nat) (H : HeapIn h roots) (hh : h.length ≤ 1048576) (hr : roots.length ≤ 1048576) (w : World) (hx0 : Sl GCell.R 9 lo0 w u0 h) (hx1 : Sl GVal.R 3 lo1 w u1 roots) :
    Calls Try.prog 58 #[u0, u1] w fun e w' => ∃ v0 v1, e = .returned (.tuple #[v0, v1]) ∧ OwnInts w.heap.size w' v0 (copiedP h roots).1 ∧ OwnInts w.heap.size w' v1 (copiedP h roots).2 ∧ BLoop h roots (copiedP h roots).1.length (copiedP h roots) ∧ Below w.heap.size w w' := by
  obtain ⟨a0, c0, rfl, l0, m0, h0⟩ := hx0
  obtain ⟨a1, c1, rfl, l1, m1, h1⟩ := hx1
  obtain ⟨n, hn⟩ : ∃ n, n = h.length := ⟨_, rfl⟩
  obtain ⟨m, hm⟩ : ∃ n, n = roots.length := ⟨_, rfl⟩
  rw [← hn] at l0 hh ⊢
  rw [← hm] at l1 hr ⊢
  replace hn := Lib.hid hn; replace hm := Lib.hid hm; replace h0 := Lib.hid h0; replace h1 := Lib.hid h1; replace H := Lib.hid H
  obtain ⟨i0, hi, hi0, hi1, hi2⟩ := info_parts info_IntS
  have I := Lib.hid hi; have I0 := Lib.hid hi0; have I1 := Lib.hid hi1; have I2 := Lib.hid hi2
  clear hi hi0 hi1 hi2
  go_enter Try.func58, Try.ntmps58
  go_upto_region 3 with (at_make; refine wpList_make_full _ rfl _ _ _ rfl w.heap.size 3 i0 _ 1 Try.underlying24 I.out I0.out I1.out _ _ _ _ n rfl rfl rfl rfl (by rw [I2.out]; omega) (by unfold maxLen; omega) (by simp; omega) ?_; intro w1 hO hgw)
  have eg : ∀ args w, (callFunc 79 args).run Try.prog w = .ok (.enter 79 args) w := fun _ _ => by kernel_rfl
  obtain ⟨X, hX⟩ : ∃ X, X = (w.alloc (.cells #[] 3)).alloc (.cells #[.slice (some ⟨w.heap.size, 0, none⟩) 0 0] 24) := ⟨_, rfl⟩
  rw [← hX] at hO hgw
  have hsz : X.heap.size = w.heap.size + 1 + 1 := by rw [hX]; simp
  rw [hsz] at hO
  have hbX : Below X.heap.size X w1 := (Below.refl X.heap.size X).grown (row := none) hgw (Nat.le_refl _) (by simp)
  have hz1 : w.heap.size + 1 + 1 < w1.heap.size := (own_base hO _ rfl).2
  have OO : OwnInts w.heap.size X (.slice (some ⟨w.heap.size, 0, none⟩) 0 0) [] := ⟨by
    have h1 := own_new w #[] 3 1 0 rfl (by unfold maxLen; omega) w.heap.size (Nat.le_refl _)
    have h2 := own_below h1 (w' := X) (by rw [hX]; go_grown)
    simpa [rowsOf] using h2, fun x hx => by cases hx⟩
  have RO : RowAt X (w.heap.size + 1) 0 [.slice (some ⟨w.heap.size, 0, none⟩) 0 0] := by
    rw [hX]
    have h := RowAt.box (w.alloc (.cells #[] 3)) #[.slice (some ⟨w.heap.size, 0, none⟩) 0 0] 24
    rwa [World.size_alloc] at h
  have WO : Wr X (w.heap.size + 1) 0 1 := by
    rw [hX]
    have h := Wr.box (w.alloc (.cells #[] 3)) #[.slice (some ⟨w.heap.size, 0, none⟩) 0 0] 24
    rwa [World.size_alloc] at h
  have hwX : Below w.heap.size w X := by rw [hX]; go_grown
  have hw1 := hwX.trans (hbX.mono hwX.size)
  obtain ⟨w2, hW2⟩ : ∃ W, W = w1.alloc (.cells #[.slice (some ⟨w.heap.size + 1 + 1, 0, none⟩) n n] 24) := ⟨_, rfl⟩
  rw [← hW2]
  have hb2 : Below w1.heap.size w1 w2 := by rw [hW2]; go_grown
  have RA : RowAt w2 w1.heap.size 0 [.slice (some ⟨w.heap.size + 1 + 1, 0, none⟩) n n] := by rw [hW2]; exact RowAt.box w1 #[_] _
  have OF : OwnFill 3 1 intRow w.heap.size w2 (w.heap.size + 1 + 1) n 0 (List.replicate n (-1)) := OwnFill.made (own_below hO hb2) _
  replace OO := (OO.below hbX).below hb2; replace RO := (RO.below hbX).below hb2; replace WO := (WO.below hbX).below hb2
  have hw2 := hw1.trans (hb2.mono hw1.size)
  clear hO hgw hX hbX hwX hw1 hW2 hb2 hsz
  generalize hbA : w1.heap.size = bA at *
  have hz2 : w.heap.size < w2.heap.size := by have := World.block_lt_of_cell? _ _ RO.box1; dsimp only at this; omega
  clear hbA
  have ra_0 := RA.box1
  replace OF := Lib.hid OF
  go_wp2_with fail
  go_loopw [19] (fun i wr => ∃ k : Nat, k ≤ n ∧ i = .int .i64 k ∧ Below w.heap.size w wr ∧ w.heap.size < wr.heap.size ∧ RowAt wr bA 0 [.slice (some ⟨w.heap.size + 1 + 1, 0, none⟩) n n] ∧ OwnFill 3 1 intRow w.heap.size wr (w.heap.size + 1 + 1) n k (List.replicate n (-1)) ∧
      OwnInts w.heap.size wr (.slice (some ⟨w.heap.size, 0, none⟩) 0 0) [] ∧ RowAt wr (w.heap.size + 1) 0 [.slice (some ⟨w.heap.size, 0, none⟩) 0 0] ∧ Wr wr (w.heap.size + 1) 0 1) (fun i _ => n - (intOf i).toNat)
  case atStart => exact ⟨0, by omega, rfl, hw2, hz2, RA, OF.out, OO, RO, WO⟩
  case round =>
    clear hw2 hz2 RA OF OO RO WO ra_0
    obtain ⟨k, hk, rfl, hw2, hz2, RA, OF, OO, RO, WO⟩ := hrel
    have ra_0 := RA.box1
    by_cases hlt : k < n
    · obtain ⟨hg1, hg2, hA⟩ := OF.arr (by omega)
      obtain ⟨x, e0, f0⟩ := hA k (by omega)
      replace OF := Lib.hid OF
      clear hA
      go_wp2_with fail
      go_roundw
      case rel =>
        have K : Kept (· = w.heap.size + 1 + 1) wr (wr.setCell ⟨w.heap.size + 1 + 1, k, none⟩ (.int .i64 (-1))) := Kept.set (S := (· = w.heap.size + 1 + 1)) (p := ⟨w.heap.size + 1 + 1, k, none⟩) (Kept.refl _ _) rfl _
        have hS := OF.out.step flatInt hlt (p := -1) (off := k) (by omega) (by simp [hlt])
        refine ⟨k + 1, by omega, by go_num, hw2.setCell (p := ⟨w.heap.size + 1 + 1, k, none⟩) (by dsimp only; omega) _, by simpa [World.setCell] using hz2, RA.kept K (by omega), hS, OO.kept K (fun g hg e => ?_), RO.kept K (by omega), WO.kept K (by omega)⟩
        obtain rfl : w.heap.size = g := by simpa [Value.ownBlock] using hg
        omega
      case measure => simp [intOf]; omega
    · obtain rfl : n = k := by omega
      have M0 : MSt w.heap.size wr bA (w.heap.size + 1) (w.heap.size + 1 + 1) n ([], List.replicate n (-1)) := by
        refine ⟨RA, OF.full flatInt (by simp) (fun p hp => ?_), by simp, ⟨_, RO, OO, fun g hg => ?_⟩, WO, by omega, by omega⟩
        · obtain ⟨_, rfl⟩ := List.mem_replicate.1 hp
          constructor <;> omega
        · obtain rfl : w.heap.size = g := by simpa [Value.ownBlock] using hg
          omega
      clear RA OF OO RO WO
      replace M0 := Lib.hid M0
      go_wp2_with fail
      go_loopw [29] (fun i wr => ∃ (k : Nat) (s : BfsS), k ≤ m ∧ i = .int .i64 k ∧ Below w.heap.size w wr ∧ w.heap.size < wr.heap.size ∧ MSt w.heap.size wr bA (w.heap.size + 1) (w.heap.size + 1 + 1) n s ∧ RLoop h roots k s) (fun i _ => m - (intOf i).toNat)
      case atStart => exact ⟨0, _, by omega, rfl, hw2, hz2, M0.out, hn.out ▸ RLoop.zero h roots⟩
      case round =>
        clear hw2 hz2 M0 ra_0
        obtain ⟨k, s, hk, rfl, hw2, hz2, M, L⟩ := hrel
        by_cases hlt : k < m
        · obtain ⟨b1, o1, v, s1, _, rfl, P1, ⟨rfl, hwf⟩, r1⟩ := (h1.out.below GVal.good hw2).get hm hlt
          obtain ⟨R0, R1, R2⟩ := r1.cells3
          have hle := L.inv.le
          rw [← hn.out] at hle
          have cm := fun W (hW : Below wr.heap.size wr W) => meet_w v s bA (w.heap.size + 1) (w.heap.size + 1 + 1) n hh (hn.out ▸ H.out.roots v (List.mem_of_getElem? P1.out)) hle hw2 hz2 M hW
          have hL := Lib.hid (L.step H.out P1.out)
          replace cm := Lib.hid cm
          clear r1 M L
          go_wp2_with (go_at_fn 79; refine (cm.out _ (by go_grown)).mono ?_; rintro e w3 ⟨⟨uu, rfl⟩, M3, hw3, hz3⟩)
          go_roundw
          case rel => exact ⟨k + 1, _, by omega, by go_num, hw3, hz3, M3, hL.out⟩
          case measure => simp [intOf]; omega
        · obtain rfl : m = k := by omega
          have BL := L.done hm.out
          clear L
          replace M := Lib.hid M; replace BL := Lib.hid BL
          go_wp2_with fail
          go_loopw [12] (fun i wr => ∃ (k : Nat) (s : BfsS), i = .int .i64 k ∧ Below w.heap.size w wr ∧ w.heap.size < wr.heap.size ∧ MSt w.heap.size wr bA (w.heap.size + 1) (w.heap.size + 1 + 1) n s ∧ BLoop h roots k s) (fun i _ => n - (intOf i).toNat)
          case atStart => exact ⟨0, s, rfl, hw2, hz2, M.out, BL.out⟩
          case round =>
            clear hw2 hz2 M BL
            obtain ⟨k, s, rfl, hw2, hz2, M, L⟩ := hrel
            have hle := L.inv.le
            rw [← hn.out] at hle
            have hkn := L.le
            obtain ⟨ov, RO, OO, -⟩ := M.boxO
            obtain ⟨oa, oc, rfl⟩ := OO.form
            have o_0 := RO.box1
            by_cases hlt : k < s.1.length
            · obtain ⟨j, c, hkj, hjn, hjc, hR⟩ := L.get hlt
              obtain ⟨b1, o1, c', s1, hn', rfl, P1, ⟨rfl, hwf⟩, r1⟩ := h0.out.get hn (hn.out ▸ hjn)
              obtain rfl : c = c' := by have := P1.out; rw [hjc] at this; exact Option.some.inj this
              have hcm := H.out.cells c (List.mem_of_getElem? hjc)
              rw [← hn.out] at hcm hjn
              obtain ⟨g1, cap1, hg1, _, hg2, _, _, hR1, _⟩ := own_cells OO.1 (by omega)
              obtain ⟨rfl, rfl⟩ : oa = some ⟨g1, 0, none⟩ ∧ oc = cap1 := by injection hg1 with e1 e2 e3; exact ⟨e1, e3⟩
              have hx := hR1 k (.int .i64 (j : Int)) (by simpa using flatInt.get (j := 0) (c := .int .i64 (j : Int)) hkj rfl)
              rw [Nat.zero_add] at hx
              obtain ⟨R0, R1, R2, R3, R4, R5, R6, R7, R8⟩ := (r1.below hw2).cells9
              have RC := r1
              have cm := fun W (hW : Below wr.heap.size wr W) => meet_w c.a s bA (w.heap.size + 1) (w.heap.size + 1 + 1) n hh hcm.1 hle hw2 hz2 M hW
              have hI := L.inv.meet (v := c.a) fun h6 => by
                obtain ⟨i, e1, e2⟩ := H.out.cells c (List.mem_of_getElem? hjc) |>.1 h6
                exact ⟨i, e1, e2, .left hR hjc h6 e1⟩
              have hle2 := hI.1.le
              rw [← hn.out] at hle2
              have hL := Lib.hid (L.step H.out hkj hjc hR)
              have hkj2 := meetP_old (v := c.a) hkj
              have hlt2 := (List.getElem?_eq_some_iff.1 hkj2).1
              replace cm := Lib.hid cm
              clear r1 M L hI hg1 hR1 OO RO hkj
              generalize hs2 : meetP s c.a = s2 at *
              go_upto_region 18 with (go_at_fn 79; refine (cm.out _ (by go_grown)).mono ?_; rintro e w3 ⟨⟨uu, rfl⟩, M3, hw3, hz3⟩)
              obtain ⟨ov, RO, OO, -⟩ := M3.boxO
              obtain ⟨oa, oc2, rfl⟩ := OO.form
              have o_3 := RO.box1
              obtain ⟨g3, cap3, hg3, _, hg4, _, _, hR3, _⟩ := own_cells OO.1 (by omega)
              obtain ⟨rfl, rfl⟩ : oa = some ⟨g3, 0, none⟩ ∧ oc2 = cap3 := by injection hg3 with e1 e2 e3; exact ⟨e1, e3⟩
              have hx3 := hR3 k (.int .i64 (j : Int)) (by simpa using flatInt.get (j := 0) (c := .int .i64 (j : Int)) hkj2 rfl)
              rw [Nat.zero_add] at hx3
              clear R0 R1 R2 R3 R4 R5 R6 R7 R8 hx o_0 cm
              obtain ⟨R0, R1, R2, R3, R4, R5, R6, R7, R8⟩ := (RC.below hw3).cells9
              have cm := fun W (hW : Below w3.heap.size w3 W) => meet_w c.b s2 bA (w.heap.size + 1) (w.heap.size + 1 + 1) n hh hcm.2 hle2 hw3 hz3 M3 hW
              replace cm := Lib.hid cm
              clear M3 hg3 hR3 OO RO hkj2
              go_wp2_with (go_at_fn 79; refine (cm.out _ (by go_grown)).mono ?_; rintro e w4 ⟨⟨uu, rfl⟩, M4, hw4, hz4⟩)
              go_roundw
              case rel => exact ⟨k + 1, _, by go_num, hw4, hz4, M4, hL.out⟩
              case measure => simp [intOf]; omega
            · have hk : k = s.1.length := by omega
              have he := L.done hk
              have ra_0 := M.boxA.box1
              have hA := M.own
              have OO' := Lib.hid OO
              have hL2 : BLoop h roots (copiedP h roots).1.length (copiedP h roots) := by rw [← he, ← hk]; exact L
              clear L M RO OO
              replace hA := Lib.hid hA; replace hL2 := Lib.hid hL2; replace he := Lib.hid he
              have hb1 : w.heap.size + 1 < wr.heap.size := World.block_lt_of_cell? _ _ o_0
              have hb2 : bA < wr.heap.size := World.block_lt_of_cell? _ _ ra_0
              go_upto_region 19 with fail
              refine wp_region_ext_lit (by kernel_rfl) (by kernel_rfl) ?_
              repeat (any_goals (first | go_big_quiet_step (fail) | quiet_step (fail)))
              all_goals (refine wpQuiet_nil ?_; rintro w5 ⟨⟨w6, hb⟩, rfl⟩)
              all_goals go_wp2_with fail
              all_goals go_returns
              all_goals exact ⟨_, _, rfl, he.out ▸ OO'.out.below hb, he.out ▸ hA.out.below hb, hL2.out, hw2.trans (hb.mono hw2.size)⟩

end Go.Proofs.Ytajbgkpjmgmdhaa
