/- Parts of the proof, merged: Thread. -/
import Derived.Test.YtfobkbjabenkkaaGreatPe16
/- Where one comes over jumps alone: both functions; membership in a list of numbers. -/
namespace Go.Proofs.YtfobkbjabenkkaaGreat
open Go.RowKit
set_option linter.unusedVariables false
set_option linter.unusedSimpArgs false
attribute [local go_sem] Ext.cell

theorem pig : ∀ (n : Nat) (p : List Int), p.Nodup → (∀ x ∈ p, 0 ≤ x ∧ x < (n : Int)) → p.length ≤ n
  | 0, p, _, h => by
    cases p with
    | nil => simp
    | cons x p => have := h x (by simp); omega
  | n + 1, p, hn, h => by
    have h1 := pig n (p.erase (n : Int)) (hn.erase _) (fun x hx => by
      have h2 := (hn.mem_erase_iff.1 hx)
      have h3 := h x h2.2
      have h4 : x ≠ (n : Int) := h2.1
      omega)
    have h2 := List.length_erase (a := (n : Int)) (l := p)
    split at h2 <;> omega

/-- Where one comes from p over jumps alone; fr where one comes back. -/
def thrF (is : List GIns) (fr : Int) : Nat → List Int → Int → Int
  | 0, _, p => p
  | f + 1, l, p => match is[p.toNat]? with
    | some i => if i.op = 12 then (if l.contains p then fr else thrF is fr f (l ++ [p]) i.a) else p
    | none => p
def thr (is : List GIns) (fr : Int) : Int := thrF is fr (is.length + 2) [] fr
/-- Where instructions lead to is in the code. -/
def LeadsIn (is : List GIns) : Prop := ∀ x ∈ is, leadsP x.op = true → ∃ k : Nat, x.a = (k : Int) ∧ k < is.length
theorem thr_in {is : List GIns} (hL : LeadsIn is) {fr : Nat} (hf : fr < is.length) : ∀ (f : Nat) (l : List Int) (p : Nat), p < is.length → ∃ k : Nat, thrF is (fr : Int) f l (p : Int) = (k : Int) ∧ k < is.length
  | 0, l, p, hp => ⟨p, rfl, hp⟩
  | f + 1, l, p, hp => by
    unfold thrF
    rw [Int.toNat_natCast, List.getElem?_eq_getElem hp]
    dsimp only
    split
    · rename_i h12
      split
      · exact ⟨fr, rfl, hf⟩
      · obtain ⟨k, hk, hlt⟩ := hL _ (List.getElem_mem hp) (by rw [h12]; rfl)
        rw [hk]
        exact thr_in hL hf f _ k hlt
    · exact ⟨p, rfl, hp⟩
def slen : Value → Nat
  | .slice _ n _ => n
  | _ => 0

theorem any_contains (l : List Int) (p : Int) : (l.any fun y => p == y) = l.contains p := by
  rw [Bool.eq_iff_iff, List.any_eq_true, List.contains_iff_mem]
  exact ⟨fun ⟨y, h1, h2⟩ => by simp at h2; exact h2 ▸ h1, fun h => ⟨p, h, by simp⟩⟩

set_option maxRecDepth 100000 in
set_option maxHeartbeats 4000000 in
theorem indexI_c (xs : List Int) (v : Int) (lo : Nat) (u : Value) (w : World) (hu : Sl IntR 1 lo w u xs) :
    Calls Tryz.prog 98 #[u, .int .i64 v] w (IdxPost (fun y => v == y) xs w) := by
  obtain ⟨ua, uc, rfl, ul, um, h0⟩ := hu
  replace h0 := Lib.hid h0
  obtain ⟨m, hm⟩ : ∃ m, m = xs.length := ⟨_, rfl⟩
  rw [← hm] at ul ⊢
  replace hm := Lib.hid hm
  go_enter Tryz.func98, Tryz.ntmps98
  go_wp2_with fail
  go_loopw [8] (fun i wr => ∃ k : Nat, k ≤ m ∧ i = .int .i64 k ∧ Below w.heap.size w wr ∧ Hid (∀ y ∈ xs.take k, (v == y) = false)) (fun i _ => m - (intOf i).toNat)
  case atStart => exact ⟨0, by omega, rfl, Below.refl _ _, fun y hy => by simp at hy⟩
  case round =>
    obtain ⟨k, hk, rfl, hw, hF⟩ := hrel
    by_cases hlt : k < m
    · obtain ⟨b1, o1, x, r, _, rfl, P1, ⟨rfl, -⟩, r1⟩ := (h0.out.below IntR.good hw).get hm hlt
      have e0 : wr.cell? ⟨b1, o1 + k, none⟩ = some (.int .i64 x) := by simpa using r1 0 _ rfl
      clear r1
      cases hq : (v == x) with
      | true =>
        go_wp2_with fail
        go_returns
        exact ⟨k, rfl, by
          have : xs.any (fun y => v == y) = true := List.any_eq_true.2 ⟨x, List.mem_of_getElem? P1.out, by simpa using hq⟩
          rw [this]; simp, hw⟩
      | false =>
        have hq' := Lib.hid hq
        go_wp2_with fail
        go_roundw
        case rel => exact ⟨k + 1, by omega, by go_num, hw, by
          show ∀ y ∈ xs.take (k + 1), (v == y) = false
          rw [take_snoc' P1.out]
          intro y hy
          rcases List.mem_append.1 hy with h | h
          · exact hF.out y h
          · simp at h; subst h; exact hq'.out⟩
        case measure => simp [intOf]; omega
    · obtain rfl : k = m := by omega
      go_wp2_with fail
      go_returns
      exact ⟨-1, rfl, by
        have hF := hF.out
        rw [take_full hm] at hF
        have : xs.any (fun y => v == y) = false := List.any_eq_false.2 fun y hy => by rw [hF y hy]; simp
        rw [this]; simp, hw⟩

theorem containsI_c (xs : List Int) (v : Int) (lo : Nat) (u : Value) (w : World) (hu : Sl IntR 1 lo w u xs) :
    Calls Tryz.prog 80 #[u, .int .i64 v] w fun e w' => e = .returned (.bool (xs.any fun y => v == y)) ∧ Below w.heap.size w w' := by
  have hc := indexI_c xs v lo u w hu
  replace hc : Calls Tryz.prog 98 #[u, .int .i64 v] w fun e w' => ∃ n : Int, e = .returned (.int .i64 n) ∧ decide (0 ≤ n) = (xs.any fun y => v == y) ∧ Below w.heap.size w w' := hc
  generalize (xs.any fun y => v == y) = q at *
  obtain ⟨ua, uc, rfl⟩ := hu.form
  clear hu
  go_enter Tryz.func80, Tryz.ntmps80
  go_wp2_with (go_at_call 98; refine hc.mono ?_; rintro e w1 ⟨n, rfl, hn, hb⟩)
  go_returns
  exact ⟨rfl, hb⟩

set_option maxHeartbeats 1000000 in
theorem l05HasI_c (l : List Int) (u : Value) (lo : Nat) (n : Int) (w : World) (hx : Sl IntR 1 lo w u l) :
    Calls Tryz.prog 66 #[u, .int .i64 n] w fun e w' => e = .returned (.bool (l.contains n)) ∧ Below w.heap.size w w' := by
  obtain ⟨a, c, rfl, l1, m1, hh⟩ := hx
  obtain ⟨m, hm⟩ : ∃ m, m = l.length := ⟨_, rfl⟩
  rw [← hm] at l1 ⊢
  replace hm := Lib.hid hm
  go_enter Tryz.func66, Tryz.ntmps66
  go_wp2_with fail
  go_loopw [9] (fun i wr => ∃ k : Nat, k ≤ m ∧ i = .int .i64 k ∧ Hid (¬ n ∈ l.take k) ∧ Below w.heap.size w wr) (fun i _ => m - (intOf i).toNat)
  case atStart => exact ⟨0, by omega, rfl, by show ¬ _; simp, Below.refl _ _⟩
  case round =>
    obtain ⟨k, hk, rfl, ht, hw⟩ := hrel
    by_cases hlt : k < m
    · obtain ⟨b1, o1, p, s1, _, rfl, P1, ⟨rfl, _⟩, r1⟩ := (hh.below IntR.good hw).get hm hlt
      have R1 : wr.cell? ⟨b1, o1 + k, none⟩ = some (.int .i64 p) := by simpa using r1 0 _ rfl
      clear r1
      cases hd : (p == n)
      · go_wp2
        go_roundw
        case rel =>
          refine ⟨k + 1, by omega, by go_num, ?_, hw⟩
          show ¬ _
          have h1 := ht.out
          rw [take_snoc' P1.out]
          simp at hd ⊢
          exact ⟨h1, fun e => hd e.symm⟩
        case measure => simp [intOf]; omega
      · go_wp2
        go_returns
        refine ⟨?_, hw⟩
        have : n ∈ l := by
          have := List.mem_of_getElem? P1.out
          simp at hd
          exact hd ▸ this
        simp [this]
    · go_wp2
      go_returns
      refine ⟨?_, hw⟩
      obtain rfl : k = m := by omega
      have := ht.out
      rw [take_full hm] at this
      simp [this]

set_option maxRecDepth 100000 in
set_option maxHeartbeats 8000000 in
theorem threaded_c (is : List GIns) (hL : LeadsIn is) (ia pa : Option Addr) (n m ic pc lo : Nat) (hn : n = is.length) (hns : n ≤ 1048576) (w : World) (h0 : SlAt GIns.R 4 lo w ia is) (fr : Nat) (hf : fr < n) :
    Calls Tryz.prog 48 #[.agg #[.slice ia n ic, .slice pa m pc], .int .i64 (fr : Int)] w fun e w' => e = .returned (.int .i64 (thr is fr)) ∧ Below w.heap.size w w' := by
  obtain ⟨R, hR⟩ : ∃ R, R = thr is fr := ⟨_, rfl⟩
  rw [← hR]
  have hR0 : thrF is (fr : Int) (n + 2 - 0) [] (fr : Int) = R := by rw [hR, hn]; rfl
  have hI := thr_in hL (by omega : fr < is.length)
  clear hR
  have cH := fun (l : List Int) (p : Int) (u : Value) (lo : Nat) (W : World) (hu : Sl IntR 1 lo W u l) => (show Calls Tryz.prog 80 #[u, .int .i64 p] W (fun e w' => e = .returned (.bool (l.contains p)) ∧ Below W.heap.size W w') from by have h := containsI_c l p lo u W hu; rwa [any_contains] at h)
  replace hL := Lib.hid hL; replace hn := Lib.hid hn; replace h0 := Lib.hid h0; replace hR0 := Lib.hid hR0; replace cH := Lib.hid cH; replace hI := Lib.hid hI
  obtain ⟨iJ, hi0, hz0, hz1, hz2⟩ := info_parts info_IntS; have IJ := Lib.hid hi0; have IJ0 := Lib.hid hz0; have IJ1 := Lib.hid hz1; have IJ2 := Lib.hid hz2; clear hi0 hz0 hz1 hz2
  go_enter Tryz.func48, Tryz.ntmps48
  go_upto_region 1 with fail
  have C : RowAt (w.alloc (.cells #[.slice ia n ic, .slice pa m pc] 30)) (w.heap.size) 0 [.slice ia n ic, .slice pa m pc] := RowAt.box w #[.slice ia n ic, .slice pa m pc] 30
  have hw : Below w.heap.size w (w.alloc (.cells #[.slice ia n ic, .slice pa m pc] 30)) := by go_grown
  generalize (w.alloc (.cells #[.slice ia n ic, .slice pa m pc] 30)) = w0 at *
  go_upto_region 2 with fail
  obtain ⟨w1, hW1⟩ : ∃ W, W = w0.alloc (.cells #[] 3) := ⟨_, rfl⟩
  rw [← hW1]
  have hb1 : Below w0.heap.size w0 w1 := by rw [hW1]; go_grown
  have hz0 := hw.size
  have hsW : w.heap.size < w0.heap.size := World.block_lt_of_cell? _ _ C.cells2.1
  have O1 : OwnF 3 1 intRow I64 w.heap.size w1 (.slice (some ⟨w0.heap.size, 0, none⟩) 0 0) ([] : List Int) := ⟨own_empty_at (by rw [hW1]; exact heap_alloc_new' _ _ _ rfl) hz0, fun x hx => by cases hx⟩
  have hw := hw.trans (hb1.mono hz0)
  have C := C.below hb1
  clear hW1
  replace O1 := Lib.hid O1
  go_wp2_with fail
  go_loopw [5, 6] (fun v i wr => ∃ (p : Nat) (l : List Int), p < n ∧ i = .int .i64 p ∧ slen v = l.length ∧ Below w.heap.size w wr ∧ RowAt wr w.heap.size 0 [.slice ia n ic, .slice pa m pc] ∧ Hid (OwnF 3 1 intRow I64 w.heap.size wr v l) ∧ (∀ g, v.ownBlock = some g → w.heap.size < g) ∧ Hid l.Nodup ∧ Hid (∀ x ∈ l, 0 ≤ x ∧ x < (n : Int)) ∧ Hid (thrF is (fr : Int) (n + 2 - l.length) l (p : Int) = R)) (fun v i _ => n + 1 - slen v)
  case atStart => exact ⟨fr, [], hf, rfl, rfl, hw, C, O1, fun g hg => by (injection hg with hg; exact hg ▸ hsW), by show List.Nodup _; simp, fun x hx => by simp at hx, hR0⟩
  case round =>
    clear hw C O1 hz0 hb1 hR0
    obtain ⟨p, l, hp, rfl, hvl, hw, C, hO, hg0, hN, hB, hT⟩ := hrel
    obtain ⟨va, vc, rfl⟩ := hO.out.form
    obtain ⟨c_0, c_1⟩ := C.box2; have hsC := World.block_lt_of_cell? _ _ c_0; dsimp only at hsC
    have hll := pig n l hN.out hB.out
    obtain ⟨k, hk⟩ : ∃ k, k = l.length := ⟨_, rfl⟩
    rw [← hk] at hll hT hvl hg0 ⊢
    obtain ⟨b1, o1, x, s1, _, rfl, P1, ⟨rfl, hwf⟩, r1⟩ := (h0.out.below GIns.good hw).get hn hp
    obtain ⟨op, a, b, s⟩ := x
    obtain ⟨r_0, r_1, r_2, r_3⟩ := r1.cells4
    dsimp only at *
    clear r1
    have hstep := hT.out
    rw [show n + 2 - k = (n + 1 - k) + 1 by omega] at hstep
    unfold thrF at hstep
    rw [Int.toNat_natCast, P1.out] at hstep
    dsimp only at hstep
    by_cases h12 : op = 12
    · rw [if_pos h12] at hstep
      have cQ := cH.out l (p : Int) _ _ wr (hO.out.sl flatInt)
      rw [← hk] at cQ
      subst h12
      obtain ⟨a', ha', hal⟩ := hL.out _ (List.mem_of_getElem? P1.out) (by rfl)
      dsimp only at ha'
      subst ha'
      rw [← hn.out] at hal
      generalize hcon : l.contains (p : Int) = q at *
      replace cQ := Lib.hid cQ
      cases q
      · rw [if_neg (by decide)] at hstep
        have hp64 : I64 ((p : Nat) : Int) := by constructor <;> omega
        replace hstep := Lib.hid hstep; replace hp64 := Lib.hid hp64; replace hcon := Lib.hid hcon; replace hk := Lib.hid hk
        clear hT
        replace hO := hO.out.1
        have hl1 := hO.1
        rw [← hk.out] at hO hl1
        go_upto_region 6 with (go_at_call 80; ((with_reducible refine (cQ.out).mono ?_); rintro e w2 ⟨rfl, hb⟩; have hw2 := hw.trans (hb.mono hw.size); have C2 := C.below hb; have hO2 := own_below hO hb))
        have hz2 := hw2.size
        go_upto_region 7 with (at_builtin; refine wpList_append_lies _ rfl _ _ _ rfl (w.heap.size) 3 iJ _ 1 8 Tryz.underlying60 IJ.out IJ0.out IJ1.out IJ2.out rfl (by omega) (.slice va k vc) (k) (rowsOf intRow l) rfl (own_below hO2 (by go_grown)) ⟨w2.heap.size, 0, none⟩ 1 1 [.int .i64 (p : Int)] rfl rfl (World.news_of_block (cs := #[.int .i64 (p : Int)]) (t := 3) (fr := (0, 0)) (heap_alloc_new' _ _ _ (by simp))) (by intro u hu; simp at hu; (first | (subst hu; rfl) | (rcases hu with rfl | rfl | rfl | rfl <;> rfl) | (rcases hu with rfl | rfl | rfl | rfl | rfl | rfl | rfl | rfl | rfl <;> rfl))) (by omega) (by unfold maxLen; omega) (by omega) (by simp; omega) _ rfl ?_; intro g2 cap2 w5 hown hgrow hat hlt2)
        have k5 := kept_of hgrow (w := w2) (by go_grown)
        have hw5 : Below w.heap.size w w5 := below_grown2 (wr := w2) (w := w) (base := w.heap.size) hgrow (by go_grown) hw2 hw2.size hO2
        have C5 := C2.kept k5 (fun h => Nat.lt_irrefl _ (hg0 _ h.symm))
        have hs2 : w.heap.size < w2.heap.size := Nat.lt_of_lt_of_le hsC hb.size
        have hg5 : w.heap.size < g2 := by
          rcases hat with h | h
          · exact hg0 _ h
          · rw [h]; simp; omega
        obtain ⟨b2, o2, x2, s2, _, hab, P2, ⟨rfl, -⟩, r2⟩ := (h0.out.below GIns.good hw5).get hn hp
        obtain ⟨rfl, rfl⟩ : b1 = b2 ∧ o1 = o2 := by injection hab with h; injection h with h1 h2; exact ⟨h1, h2⟩
        obtain rfl : x2 = ⟨12, (a' : Int), b, s⟩ := by have h1 := P1.out; rw [P2.out] at h1; exact Option.some.inj h1
        have q_1 := r2.cells4.2.1
        dsimp only at q_1
        have O5 : OwnF 3 1 intRow I64 w.heap.size w5 (.slice (some ⟨g2, 0, none⟩) (k + 1) cap2) (l ++ [(p : Int)]) := by
          refine ⟨?_, fun y hy => ?_⟩
          · rw [List.length_append, List.length_singleton, ← hk.out, rowsOf_append, rowsOf_one]
            exact hown
          · rcases List.mem_append.1 hy with h | h
            · have := hB.out y h; constructor <;> omega
            · simp only [List.mem_singleton] at h; rw [h]; exact hp64.out
        have N5 : (l ++ [(p : Int)]).Nodup := List.nodup_append.2 ⟨hN.out, by simp, fun y hy z hz e => by
          simp only [List.mem_singleton] at hz
          subst hz; subst e
          have h1 := hcon.out
          rw [List.contains_iff_mem.2 hy] at h1; cases h1⟩
        have B5 : ∀ x ∈ l ++ [(p : Int)], 0 ≤ x ∧ x < (n : Int) := fun x hx => by
          rcases List.mem_append.1 hx with h | h
          · exact hB.out x h
          · simp only [List.mem_singleton] at h; rw [h]; omega
        have T5 : thrF is (fr : Int) (n + 2 - (l ++ [(p : Int)]).length) (l ++ [(p : Int)]) (a' : Int) = R := by
          rw [List.length_append, List.length_singleton, ← hk.out, show n + 2 - (k + 1) = n + 1 - k by omega]; exact hstep.out
        have L5 := pig n _ N5 B5
        rw [List.length_append, List.length_singleton, ← hk.out] at L5
        have H5 : slen (.slice (some ⟨g2, 0, none⟩) (k + 1) cap2) = (l ++ [(p : Int)]).length := by rw [List.length_append, List.length_singleton, ← hk.out]; rfl
        have c5_0 := C5.cells2.1
        replace O5 := Lib.hid O5; replace N5 := Lib.hid N5; replace B5 := Lib.hid B5; replace T5 := Lib.hid T5
        replace H5 := Lib.hid H5; replace hvl := Lib.hid hvl
        clear r2 hown hgrow hat hlt2 hO hO2 cQ hb C C2 c_0 c_1 hsC r_0 r_1 r_2 r_3
        go_wp2_with fail
        go_roundw
        case rel => exact ⟨a', l ++ [(p : Int)], hal, rfl, H5.out, hw5, C5, O5, (fun g hg => by injection hg with h; exact h ▸ hg5), N5, B5, T5⟩
        case measure => simp [slen]; omega
      · rw [if_pos rfl] at hstep
        replace hstep := Lib.hid hstep; replace hcon := Lib.hid hcon; replace hk := Lib.hid hk
        go_wp2_with (go_at_call 80; ((with_reducible refine (cQ.out).mono ?_); rintro e w2 ⟨rfl, hb⟩))
        go_returns
        exact ⟨by rw [hstep.out]; rfl, hw.trans (hb.mono hw.size)⟩
    · rw [if_neg h12] at hstep
      have d12 : (op == 12) = false := by simpa using h12
      replace hstep := Lib.hid hstep
      go_wp2_with fail
      go_returns
      exact ⟨by rw [hstep.out]; rfl, hw⟩

set_option maxRecDepth 100000 in
set_option maxHeartbeats 8000000 in
theorem l19End_c (is : List GIns) (hL : LeadsIn is) (ia pa : Option Addr) (n m ic pc lo : Nat) (hn : n = is.length) (hns : n ≤ 1048576) (w : World) (h0 : SlAt GIns.R 4 lo w ia is) (fr : Nat) (hf : fr < n) :
    Calls Tryz.prog 37 #[.agg #[.slice ia n ic, .slice pa m pc], .int .i64 (fr : Int)] w fun e w' => e = .returned (.int .i64 (thr is fr)) ∧ Below w.heap.size w w' := by
  obtain ⟨R, hR⟩ : ∃ R, R = thr is fr := ⟨_, rfl⟩
  rw [← hR]
  have hR0 : thrF is (fr : Int) (n + 2 - 0) [] (fr : Int) = R := by rw [hR, hn]; rfl
  have hI := thr_in hL (by omega : fr < is.length)
  clear hR
  have cH := fun (l : List Int) (p : Int) (u : Value) (lo : Nat) (W : World) (hu : Sl IntR 1 lo W u l) => l05HasI_c l u lo p W hu
  replace hL := Lib.hid hL; replace hn := Lib.hid hn; replace h0 := Lib.hid h0; replace hR0 := Lib.hid hR0; replace cH := Lib.hid cH; replace hI := Lib.hid hI
  obtain ⟨iJ, hi0, hz0, hz1, hz2⟩ := info_parts info_IntS; have IJ := Lib.hid hi0; have IJ0 := Lib.hid hz0; have IJ1 := Lib.hid hz1; have IJ2 := Lib.hid hz2; clear hi0 hz0 hz1 hz2
  go_enter Tryz.func37, Tryz.ntmps37
  go_upto_region 1 with fail
  have C : RowAt (w.alloc (.cells #[.slice ia n ic, .slice pa m pc] 30)) (w.heap.size) 0 [.slice ia n ic, .slice pa m pc] := RowAt.box w #[.slice ia n ic, .slice pa m pc] 30
  have hw : Below w.heap.size w (w.alloc (.cells #[.slice ia n ic, .slice pa m pc] 30)) := by go_grown
  generalize (w.alloc (.cells #[.slice ia n ic, .slice pa m pc] 30)) = w0 at *
  go_upto_region 2 with fail
  obtain ⟨w1, hW1⟩ : ∃ W, W = w0.alloc (.cells #[] 3) := ⟨_, rfl⟩
  rw [← hW1]
  have hb1 : Below w0.heap.size w0 w1 := by rw [hW1]; go_grown
  have hz0 := hw.size
  have hsW : w.heap.size < w0.heap.size := World.block_lt_of_cell? _ _ C.cells2.1
  have O1 : OwnF 3 1 intRow I64 w.heap.size w1 (.slice (some ⟨w0.heap.size, 0, none⟩) 0 0) ([] : List Int) := ⟨own_empty_at (by rw [hW1]; exact heap_alloc_new' _ _ _ rfl) hz0, fun x hx => by cases hx⟩
  have hw := hw.trans (hb1.mono hz0)
  have C := C.below hb1
  clear hW1
  replace O1 := Lib.hid O1
  go_wp2_with fail
  go_loopw [5, 6] (fun v i wr => ∃ (p : Nat) (l : List Int), p < n ∧ i = .int .i64 p ∧ slen v = l.length ∧ Below w.heap.size w wr ∧ RowAt wr w.heap.size 0 [.slice ia n ic, .slice pa m pc] ∧ Hid (OwnF 3 1 intRow I64 w.heap.size wr v l) ∧ (∀ g, v.ownBlock = some g → w.heap.size < g) ∧ Hid l.Nodup ∧ Hid (∀ x ∈ l, 0 ≤ x ∧ x < (n : Int)) ∧ Hid (thrF is (fr : Int) (n + 2 - l.length) l (p : Int) = R)) (fun v i _ => n + 1 - slen v)
  case atStart => exact ⟨fr, [], hf, rfl, rfl, hw, C, O1, fun g hg => by (injection hg with hg; exact hg ▸ hsW), by show List.Nodup _; simp, fun x hx => by simp at hx, hR0⟩
  case round =>
    clear hw C O1 hz0 hb1 hR0
    obtain ⟨p, l, hp, rfl, hvl, hw, C, hO, hg0, hN, hB, hT⟩ := hrel
    obtain ⟨va, vc, rfl⟩ := hO.out.form
    obtain ⟨c_0, c_1⟩ := C.box2; have hsC := World.block_lt_of_cell? _ _ c_0; dsimp only at hsC
    have hll := pig n l hN.out hB.out
    obtain ⟨k, hk⟩ : ∃ k, k = l.length := ⟨_, rfl⟩
    rw [← hk] at hll hT hvl hg0 ⊢
    obtain ⟨b1, o1, x, s1, _, rfl, P1, ⟨rfl, hwf⟩, r1⟩ := (h0.out.below GIns.good hw).get hn hp
    obtain ⟨op, a, b, s⟩ := x
    obtain ⟨r_0, r_1, r_2, r_3⟩ := r1.cells4
    dsimp only at *
    clear r1
    have hstep := hT.out
    rw [show n + 2 - k = (n + 1 - k) + 1 by omega] at hstep
    unfold thrF at hstep
    rw [Int.toNat_natCast, P1.out] at hstep
    dsimp only at hstep
    by_cases h12 : op = 12
    · rw [if_pos h12] at hstep
      have cQ := cH.out l (p : Int) _ _ wr (hO.out.sl flatInt)
      rw [← hk] at cQ
      subst h12
      obtain ⟨a', ha', hal⟩ := hL.out _ (List.mem_of_getElem? P1.out) (by rfl)
      dsimp only at ha'
      subst ha'
      rw [← hn.out] at hal
      generalize hcon : l.contains (p : Int) = q at *
      replace cQ := Lib.hid cQ
      cases q
      · rw [if_neg (by decide)] at hstep
        have hp64 : I64 ((p : Nat) : Int) := by constructor <;> omega
        replace hstep := Lib.hid hstep; replace hp64 := Lib.hid hp64; replace hcon := Lib.hid hcon; replace hk := Lib.hid hk
        clear hT
        replace hO := hO.out.1
        have hl1 := hO.1
        rw [← hk.out] at hO hl1
        go_upto_region 6 with (go_at_call 66; ((with_reducible refine (cQ.out).mono ?_); rintro e w2 ⟨rfl, hb⟩; have hw2 := hw.trans (hb.mono hw.size); have C2 := C.below hb; have hO2 := own_below hO hb))
        have hz2 := hw2.size
        go_upto_region 7 with (at_builtin; refine wpList_append_lies _ rfl _ _ _ rfl (w.heap.size) 3 iJ _ 1 8 Tryz.underlying60 IJ.out IJ0.out IJ1.out IJ2.out rfl (by omega) (.slice va k vc) (k) (rowsOf intRow l) rfl (own_below hO2 (by go_grown)) ⟨w2.heap.size, 0, none⟩ 1 1 [.int .i64 (p : Int)] rfl rfl (World.news_of_block (cs := #[.int .i64 (p : Int)]) (t := 3) (fr := (0, 0)) (heap_alloc_new' _ _ _ (by simp))) (by intro u hu; simp at hu; (first | (subst hu; rfl) | (rcases hu with rfl | rfl | rfl | rfl <;> rfl) | (rcases hu with rfl | rfl | rfl | rfl | rfl | rfl | rfl | rfl | rfl <;> rfl))) (by omega) (by unfold maxLen; omega) (by omega) (by simp; omega) _ rfl ?_; intro g2 cap2 w5 hown hgrow hat hlt2)
        have k5 := kept_of hgrow (w := w2) (by go_grown)
        have hw5 : Below w.heap.size w w5 := below_grown2 (wr := w2) (w := w) (base := w.heap.size) hgrow (by go_grown) hw2 hw2.size hO2
        have C5 := C2.kept k5 (fun h => Nat.lt_irrefl _ (hg0 _ h.symm))
        have hs2 : w.heap.size < w2.heap.size := Nat.lt_of_lt_of_le hsC hb.size
        have hg5 : w.heap.size < g2 := by
          rcases hat with h | h
          · exact hg0 _ h
          · rw [h]; simp; omega
        obtain ⟨b2, o2, x2, s2, _, hab, P2, ⟨rfl, -⟩, r2⟩ := (h0.out.below GIns.good hw5).get hn hp
        obtain ⟨rfl, rfl⟩ : b1 = b2 ∧ o1 = o2 := by injection hab with h; injection h with h1 h2; exact ⟨h1, h2⟩
        obtain rfl : x2 = ⟨12, (a' : Int), b, s⟩ := by have h1 := P1.out; rw [P2.out] at h1; exact Option.some.inj h1
        have q_1 := r2.cells4.2.1
        dsimp only at q_1
        have O5 : OwnF 3 1 intRow I64 w.heap.size w5 (.slice (some ⟨g2, 0, none⟩) (k + 1) cap2) (l ++ [(p : Int)]) := by
          refine ⟨?_, fun y hy => ?_⟩
          · rw [List.length_append, List.length_singleton, ← hk.out, rowsOf_append, rowsOf_one]
            exact hown
          · rcases List.mem_append.1 hy with h | h
            · have := hB.out y h; constructor <;> omega
            · simp only [List.mem_singleton] at h; rw [h]; exact hp64.out
        have N5 : (l ++ [(p : Int)]).Nodup := List.nodup_append.2 ⟨hN.out, by simp, fun y hy z hz e => by
          simp only [List.mem_singleton] at hz
          subst hz; subst e
          have h1 := hcon.out
          rw [List.contains_iff_mem.2 hy] at h1; cases h1⟩
        have B5 : ∀ x ∈ l ++ [(p : Int)], 0 ≤ x ∧ x < (n : Int) := fun x hx => by
          rcases List.mem_append.1 hx with h | h
          · exact hB.out x h
          · simp only [List.mem_singleton] at h; rw [h]; omega
        have T5 : thrF is (fr : Int) (n + 2 - (l ++ [(p : Int)]).length) (l ++ [(p : Int)]) (a' : Int) = R := by
          rw [List.length_append, List.length_singleton, ← hk.out, show n + 2 - (k + 1) = n + 1 - k by omega]; exact hstep.out
        have L5 := pig n _ N5 B5
        rw [List.length_append, List.length_singleton, ← hk.out] at L5
        have H5 : slen (.slice (some ⟨g2, 0, none⟩) (k + 1) cap2) = (l ++ [(p : Int)]).length := by rw [List.length_append, List.length_singleton, ← hk.out]; rfl
        have c5_0 := C5.cells2.1
        replace O5 := Lib.hid O5; replace N5 := Lib.hid N5; replace B5 := Lib.hid B5; replace T5 := Lib.hid T5
        replace H5 := Lib.hid H5; replace hvl := Lib.hid hvl
        clear r2 hown hgrow hat hlt2 hO hO2 cQ hb C C2 c_0 c_1 hsC r_0 r_1 r_2 r_3
        go_wp2_with fail
        go_roundw
        case rel => exact ⟨a', l ++ [(p : Int)], hal, rfl, H5.out, hw5, C5, O5, (fun g hg => by injection hg with h; exact h ▸ hg5), N5, B5, T5⟩
        case measure => simp [slen]; omega
      · rw [if_pos rfl] at hstep
        replace hstep := Lib.hid hstep; replace hcon := Lib.hid hcon; replace hk := Lib.hid hk
        go_wp2_with (go_at_call 66; ((with_reducible refine (cQ.out).mono ?_); rintro e w2 ⟨rfl, hb⟩))
        go_returns
        exact ⟨by rw [hstep.out]; rfl, hw.trans (hb.mono hw.size)⟩
    · rw [if_neg h12] at hstep
      have d12 : (op == 12) = false := by simpa using h12
      replace hstep := Lib.hid hstep
      go_wp2_with fail
      go_returns
      exact ⟨by rw [hstep.out]; rfl, hw⟩

end Go.Proofs.YtfobkbjabenkkaaGreat
