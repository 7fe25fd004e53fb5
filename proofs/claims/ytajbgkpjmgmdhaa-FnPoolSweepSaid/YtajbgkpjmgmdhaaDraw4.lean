/- spec.PoolNew as the draws use it; small pools. -/
import Derived.Test.YtajbgkpjmgmdhaaDraw3
import Derived.Test.YtajbgkpjmgmdhaaSweep4
import Derived.Test.YtajbgkpjmgmdhaaPoolMake4
namespace Go.Proofs.Ytajbgkpjmgmdhaa
open Go.RowKit
set_option linter.unusedVariables false
set_option linter.unusedSimpArgs false
attribute [local go_sem] Ext.cell

/-- A small pool. -/
structure PSmall (p : GPool) : Prop where
  len : p.cells.length ≤ 10
  cells : ∀ c ∈ p.cells, SmallC c
  free : p.free.length ≤ 8000
theorem smallC_zero : SmallC zeroC := ⟨zeroC_wf, by decide, by decide, by decide⟩
theorem PSmall.bulk {p : GPool} (h : PSmall p) : p.bulk ≤ 1048576 := by
  have h1 : ∀ l : List GCell, (∀ c ∈ l, SmallC c) → bulkS GCell.bulk l ≤ (l.length : Int) * 16 := by
    intro l
    induction l with
    | nil => intro _; simp [bulkS]
    | cons c l ih =>
      intro hl
      have h2 := ih (fun c hc => hl c (List.mem_cons_of_mem _ hc))
      obtain ⟨_, h3, h4, h5⟩ := hl c (by simp)
      simp only [bulkS, List.length_cons, List.map_cons, List.sum_cons, GCell.bulk] at h2 ⊢
      omega
  have h2 := h1 p.cells h.cells
  have h3 := h.len; have h4 := h.free
  simp only [GPool.bulk]
  omega
theorem PSmall.zero : PSmall GPool.zero := ⟨by simp [GPool.zero], fun c hc => by simp [GPool.zero] at hc, by simp [GPool.zero]⟩
theorem swp_cells {p : GPool} {lv : List Bool} (h : ∀ c ∈ p.cells, SmallC c) (k : Nat) : ∀ c ∈ (swp p lv k).1.cells, SmallC c := by
  induction k with
  | zero => exact h
  | succ k ih =>
    unfold swp
    split
    · intro c hc
      rcases List.mem_or_eq_of_mem_set hc with h1 | rfl
      · exact ih c h1
      · exact smallC_zero
    · exact ih
theorem PSmall.sweep {p : GPool} (h : PSmall p) (roots : List GVal) : PSmall (psPool p roots) := by
  unfold psPool
  split
  · rename_i hk
    have hl := swp_len p (psLive p roots) p.cells.length
    obtain ⟨h1, h2, -⟩ := poolOk_parts hk.1
    have := h.len
    exact ⟨by omega, swp_cells h.cells _, by omega⟩
  · exact PSmall.zero
theorem PSmall.make {p : GPool} (h : PSmall p) {c : GCell} (hc : SmallC c) : PSmall (pmPool p c) := by
  unfold pmPool
  split
  · refine ⟨by simpa using h.len, fun x hx => ?_, by have := h.free; simp; omega⟩
    rcases List.mem_or_eq_of_mem_set hx with h1 | rfl
    · exact h.cells x h1
    · exact hc
  · exact PSmall.zero
theorem pmAt_bound {p : GPool} (h : ∀ x ∈ p.free, I64 x) (c : GCell) : I64 (pmAt p c) := by
  unfold pmAt
  split
  · rw [List.getD_eq_getElem?_getD]
    cases e : p.free[p.free.length - 1]? with
    | none => constructor <;> simp
    | some x => exact h x (List.mem_of_getElem? e)
  · constructor <;> omega

def downsI (N k : Nat) : List Int := (List.range k).map fun j : Nat => (N : Int) - 1 - (j : Int)
theorem rows_ints (xs : List Int) : rowsOf intRow xs = xs.map (Value.int .i64) := by
  induction xs with
  | nil => rfl
  | cons x xs ih => simp only [rowsOf, List.flatMap_cons, List.map_cons] at ih ⊢; rw [ih]; rfl
theorem downsI_step (N k : Nat) : downsI N (k + 1) = downsI N k ++ [(N : Int) - 1 - k] := by simp [downsI, List.range_succ]
theorem made_cells (n : Nat) : (madeCells #[.int .i64 0, .int .i64 0, .string ⟨#[]⟩, .int .i64 0, .int .i64 0, .string ⟨#[]⟩, .int .i64 0, .int .i64 0, .string ⟨#[]⟩] (n * 9)).toList = rowsOf cellRow (List.replicate n zeroC) := by
  unfold madeCells
  induction n with
  | zero => simp [rowsOf]
  | succ n ih =>
    rw [List.replicate_succ', rowsOf_append, ← ih, Nat.succ_mul]
    simp only [Array.toList_map, Array.toList_range, List.range_add, List.map_append, List.map_map]
    congr 1
    have hr : List.range 9 = [0, 1, 2, 3, 4, 5, 6, 7, 8] := by decide
    rw [hr]
    simp only [List.map_cons, List.map_nil, Function.comp, rowsOf, List.flatMap_cons, List.flatMap_nil, cellRow, zeroC, List.append_nil]
    simp [Nat.mul_add_mod_self_right]

set_option maxRecDepth 100000 in
set_option maxHeartbeats 4000000 in
theorem poolNew_o (N : Nat) (hN : N ≤ 4000) (w : World) :
    Calls Try.prog 85 #[.int .i64 N] w fun e w' => ∃ v0 v1, e = .returned (.tuple #[.agg #[v0, v1], .bool true]) ∧ OwnPool w.heap.size w' v0 v1 ⟨List.replicate N zeroC, downsI N N⟩ ∧ Below w.heap.size w w' := by
  obtain ⟨i0, hi, hi0, hi1, hi2⟩ := info_parts info_CellS
  have I := Lib.hid hi; have I0 := Lib.hid hi0; have I1 := Lib.hid hi1; have I2 := Lib.hid hi2
  clear hi hi0 hi1 hi2
  obtain ⟨i1, hi, hi0, hi1, hi2⟩ := info_parts info_IntS
  have J := Lib.hid hi; have J0 := Lib.hid hi0; have J1 := Lib.hid hi1; have J2 := Lib.hid hi2
  clear hi hi0 hi1 hi2
  have d1 : decide ((N : Int) < 0) = false := decide_eq_false (by omega)
  have d2 : decide (4000 < (N : Int)) = false := decide_eq_false (by omega)
  go_enter Try.func85, Try.ntmps85
  go_upto_region 4 with (at_make; refine wpList_make_full _ rfl _ _ _ rfl w.heap.size 30 i0 _ 9 Try.underlying23 I.out I0.out I1.out _ _ _ _ N rfl rfl rfl rfl (by rw [I2.out]; omega) (by unfold maxLen; omega) (by simp) ?_; intro w1 hO hgw)
  rw [show (Value.agg #[.int .i64 0, .int .i64 0, .string ⟨#[]⟩, .int .i64 0, .int .i64 0, .string ⟨#[]⟩, .int .i64 0, .int .i64 0, .string ⟨#[]⟩]).cells = #[.int .i64 0, .int .i64 0, .string ⟨#[]⟩, .int .i64 0, .int .i64 0, .string ⟨#[]⟩, .int .i64 0, .int .i64 0, .string ⟨#[]⟩] from rfl, made_cells] at hO
  simp only [World.size_alloc] at hO
  have hb1 : Below (w.heap.size + 1) (w.alloc (.cells #[.slice none 0 0, .slice none 0 0] 26)) w1 := (Below.refl _ _).grown (row := none) hgw (by simp) (by simp)
  have hbw1 : Below w.heap.size w w1 := Below.trans (show Below w.heap.size w (w.alloc (.cells #[.slice none 0 0, .slice none 0 0] 26)) by go_grown) (hb1.mono (by omega))
  have RR := RowAt.box w #[.slice none 0 0, .slice none 0 0] 26
  have WR := Wr.box w #[.slice none 0 0, .slice none 0 0] 26
  replace RR := RR.below (by simpa using hb1); replace WR := WR.below (by simpa using hb1)
  have hs1 : w.heap.size + 1 < w1.heap.size := (own_base hO _ rfl).2
  have OC1 : OwnCells w.heap.size w1 (.slice (some ⟨w.heap.size + 1, 0, none⟩) N N) (List.replicate N zeroC) := ⟨by rw [List.length_replicate]; exact hO, fun x hx => by rw [(List.mem_replicate.1 hx).2]; exact zeroC_wf⟩
  obtain ⟨w2, hW2⟩ : ∃ W, W = w1.alloc (.cells #[.slice (some ⟨w.heap.size + 1, 0, none⟩) N N, .slice none 0 0] 26) := ⟨_, rfl⟩
  rw [← hW2]
  have hb2 : Below w1.heap.size w1 w2 := by rw [hW2]; go_grown
  have RB : RowAt w2 w1.heap.size 0 [.slice (some ⟨w.heap.size + 1, 0, none⟩) N N, .slice none 0 0] := by rw [hW2]; exact RowAt.box w1 #[_, _] _
  have WB : Wr w2 w1.heap.size 0 2 := by rw [hW2]; exact Wr.box w1 #[_, _] _
  replace RR := RR.below hb2; replace WR := WR.below hb2
  have OC2 := OC1.below hb2
  have hw2 := hbw1.trans (hb2.mono hbw1.size)
  clear hW2 OC1 hO hgw hb1 hbw1 hb2
  generalize w1.heap.size = bP at *
  have hbP2 : bP < w2.heap.size := World.block_lt_of_cell? _ _ RB.box2.1
  replace OC2 := Lib.hid OC2; replace RR := Lib.hid RR; replace WR := Lib.hid WR; replace RB := Lib.hid RB; replace WB := Lib.hid WB
  go_wp2_with fail
  go_loopw [5] (fun i wr => ∃ (k : Nat) (v : Value), k ≤ N ∧ i = .int .i64 ((N : Int) - 1 - k) ∧ RowAt wr bP 0 [.slice (some ⟨w.heap.size + 1, 0, none⟩) N N, v] ∧ Wr wr bP 0 2 ∧ RowAt wr w.heap.size 0 [.slice none 0 0, .slice none 0 0] ∧ Wr wr w.heap.size 0 2 ∧ OwnInts (bP + 1) wr v (downsI N k) ∧ OwnCells w.heap.size wr (.slice (some ⟨w.heap.size + 1, 0, none⟩) N N) (List.replicate N zeroC) ∧ w.heap.size + 1 < bP ∧ bP < wr.heap.size ∧ Below w.heap.size w wr) (fun i _ => (intOf i + 1).toNat)
  case atStart => exact ⟨0, _, Nat.zero_le _, by simp, RB.out, WB.out, RR.out, WR.out, OwnF.empty, OC2.out, hs1, hbP2, hw2⟩
  case round =>
    clear RB WB RR WR OC2 hbP2 hw2 hs1
    obtain ⟨k, v, hk, rfl, RB, WB, RR, WR, OI, OC, hbW, hbP, hw⟩ := hrel
    have hlI : (downsI N k).length = k := by simp [downsI]
    obtain ⟨va, vc, rfl⟩ := OI.form
    rw [hlI] at OI RB
    have hob := OI.base
    have hown : Hid (wr.ownsRow (bP + 1) 3 1 (.slice va k vc) k (rowsOf intRow (downsI N k))) := by have h' := OI.1; rw [hlI] at h'; exact h'
    have hwf := Lib.hid OI.2
    obtain ⟨q_0, q_1⟩ := RB.box2
    have qf := WB.frz 1 (by omega)
    replace hob := Lib.hid hob; replace OC := Lib.hid OC
    by_cases hlt : k < N
    · obtain ⟨i, hi⟩ : ∃ i : Int, i = (N : Int) - 1 - k := ⟨_, rfl⟩
      rw [← hi]
      have hi0 : 0 ≤ i := by omega
      have hi9 : i ≤ 4000 := by omega
      have hst : downsI N (k + 1) = downsI N k ++ [i] := by rw [downsI_step, hi]
      replace hi := Lib.hid hi; replace hst := Lib.hid hst; replace hlI := Lib.hid hlI
      clear OI
      go_wp2_with (at_builtin; refine wpList_append_lies _ rfl _ _ _ rfl (bP + 1) 3 i1 _ 1 8 Try.underlying24 J.out J0.out J1.out J2.out rfl (by omega) (.slice va k vc) k (rowsOf intRow (downsI N k)) rfl (own_below hown.out (by go_grown)) ⟨wr.heap.size, 0, none⟩ 1 1 [.int .i64 i] rfl rfl (World.news_of_block (cs := #[.int .i64 i]) (t := 3) (fr := (0, 0)) (heap_alloc_new' _ _ _ (by simp))) (by intro u hu; simp at hu; subst hu; rfl) (by omega) (by unfold maxLen; omega) (by omega) (by simp; omega) _ rfl ?_; intro g cap w3 hown3 hgrow hat hlt3; have hk3 := kept_of hgrow (w := wr) (by go_grown); have hz3 := hgrow.size; (simp only [World.size_alloc] at hz3 hat); have nR : ∀ c, c < bP + 1 → ¬ (some c = (Value.slice va k vc).ownBlock) := (fun c hc e => by have := (hob.out _ e.symm).1; omega); have RB3 := RB.kept hk3 (nR _ (by omega)); have WB3 := WB.kept hk3 (nR _ (by omega)); obtain ⟨q3_0, q3_1⟩ := RB3.box2; have f3_1 := WB3.frz 1 (by omega))
      go_roundw
      case rel =>
        have hB3 : Below (bP + 1) wr w3 := below_grown2 (wr := wr) hgrow (by go_grown) (Below.refl (bP + 1) wr) (by omega) hown.out
        have K4 : Kept (· = bP) w3 (w3.setCell ⟨bP, 1, none⟩ (.slice (some ⟨g, 0, none⟩) (k + 1) cap)) := Kept.set (S := (· = bP)) (p := ⟨bP, 1, none⟩) (Kept.refl _ _) rfl _
        have hwz : w.heap.size ≤ bP := by omega
        have q4 := stored2' (y := .slice (some ⟨g, 0, none⟩) (k + 1) cap) q3_0 q3_1
        have hgb : bP + 1 ≤ g := by
          rcases hat with h | h
          · exact (hob.out g h).1
          · omega
        have OI4 : OwnInts (bP + 1) (w3.setCell ⟨bP, 1, none⟩ (.slice (some ⟨g, 0, none⟩) (k + 1) cap)) (.slice (some ⟨g, 0, none⟩) (k + 1) cap) (downsI N (k + 1)) := by
          refine OwnF.kept (S := (· = bP)) ⟨?_, fun y hy => ?_⟩ K4 (fun q hq e => ?_)
          · rw [hst.out, List.length_append, hlI.out, rowsOf_append, rowsOf_one]; exact hown3
          · rw [hst.out] at hy
            rcases List.mem_append.1 hy with h' | h'
            · exact hwf.out y h'
            · simp at h'; subst h'; constructor <;> omega
          · obtain rfl : g = q := by simpa [Value.ownBlock] using hq
            omega
        have OC4 : OwnCells w.heap.size (w3.setCell ⟨bP, 1, none⟩ (.slice (some ⟨g, 0, none⟩) (k + 1) cap)) (.slice (some ⟨w.heap.size + 1, 0, none⟩) N N) (List.replicate N zeroC) := by
          refine OwnF.kept (S := (· = bP)) (OwnF.kept OC.out hk3 (fun q hq => ?_)) K4 (fun q hq e => ?_)
          · obtain rfl : w.heap.size + 1 = q := by simpa [Value.ownBlock] using hq
            exact nR _ (by omega)
          · obtain rfl : w.heap.size + 1 = q := by simpa [Value.ownBlock] using hq
            omega
        exact ⟨k + 1, .slice (some ⟨g, 0, none⟩) (k + 1) cap, by omega, by have := hi.out; congr 1; omega, RowAt.of2 q4.1 q4.2, WB3.set 1 _, (RR.kept hk3 (nR _ (by omega))).kept K4 (by omega), (WR.kept hk3 (nR _ (by omega))).kept K4 (by omega), OI4, OC4, hbW, by simp [World.setCell]; omega, (hw.trans (hB3.mono (by omega))).setCell (p := ⟨bP, 1, none⟩) hwz _⟩
      case measure => simp [intOf]; omega
    · obtain rfl : k = N := by omega
      have hi : (k : Int) - 1 - k = -1 := by omega
      rw [hi]
      clear hi
      obtain ⟨r_0, r_1⟩ := RR.box2
      have rf_0 := WR.frz 0 (by omega); have rf_1 := WR.frz 1 (by omega)
      have hI : OwnInts (bP + 1) wr (.slice va k vc) (downsI k k) := OI
      replace hI := Lib.hid hI
      clear OI hown
      go_wp2_with fail
      have q := stored2 (x := .slice (some ⟨w.heap.size + 1, 0, none⟩) k k) (y := .slice va k vc) r_0 r_1
      refine bodyPost_ret (v := .tuple #[.agg #[.slice (some ⟨w.heap.size + 1, 0, none⟩) k k, .slice va k vc], .bool true]) (by simp [results, Try.results85, go_sem, q.1, q.2]) rfl ?_
      have K : Kept (· = w.heap.size) wr ((wr.setCell ⟨w.heap.size, 0, none⟩ (.slice (some ⟨w.heap.size + 1, 0, none⟩) k k)).setCell ⟨w.heap.size, 1, none⟩ (.slice va k vc)) := Kept.set (S := (· = w.heap.size)) (p := ⟨w.heap.size, 1, none⟩) (Kept.set (S := (· = w.heap.size)) (p := ⟨w.heap.size, 0, none⟩) (Kept.refl _ _) rfl _) rfl _
      refine ⟨_, _, rfl, ⟨OC.out.kept K (fun q hq e => ?_), (hI.out.mono (by omega)).kept K (fun q hq e => ?_), fun q h1 h2 => ?_⟩, below_set2 hw (Nat.le_refl _) _ _⟩
      · obtain rfl : w.heap.size + 1 = q := by simpa [Value.ownBlock] using hq
        omega
      · have := hob.out q hq; omega
      · obtain rfl : w.heap.size + 1 = q := by simpa [Value.ownBlock] using h1
        have := hob.out _ h2; omega
theorem PSmall.new {N : Nat} (hN : N ≤ 10) : PSmall ⟨List.replicate N zeroC, downsI N N⟩ :=
  ⟨by simpa using hN, fun c hc => by rw [(List.mem_replicate.1 hc).2]; exact smallC_zero, by simp [downsI]; omega⟩

end Go.Proofs.Ytajbgkpjmgmdhaa
