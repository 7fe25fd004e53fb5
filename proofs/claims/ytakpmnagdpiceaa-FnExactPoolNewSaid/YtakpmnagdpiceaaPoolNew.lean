/- PoolNew: both walks. Printed by gen_poolnew.py. -/
import Derived.Test.YtakpmnagdpiceaaMarkInt
import Derived.Test.YtakpmnagdpiceaaMarkCell
import Derived.Test.YtakpmnagdpiceaaPoolOk2
import Derived.Test.YtakpmnagdpiceaaTo
namespace Go.Proofs.Ytakpmnagdpiceaa
open Go.RowKit
set_option linter.unusedVariables false
set_option linter.unusedSimpArgs false
attribute [local go_sem] Ext.cell

/-- N-1, N-2, .. : the first k of them. -/
def downs (N k : Nat) : List Int := (List.range k).map fun j : Nat => (N : Int) - 1 - (j : Int)
theorem downs_step (N k : Nat) : (downs N (k + 1)).map (Value.int .i64) = (downs N k).map (Value.int .i64) ++ [.int .i64 ((N : Int) - 1 - k)] := by simp [downs, List.range_succ]
theorem info_IntSn : (Try.prog.info? 3).map (fun i => (i.zero, i.size, i.bytes)) = some (some (.int .i64 0), 1, 8) := by kernel_rfl
def zeroRow : List Value := [.int .i64 0, .int .i64 0, .string ⟨#[]⟩, .int .i64 0, .int .i64 0, .string ⟨#[]⟩, .int .i64 0, .int .i64 0, .string ⟨#[]⟩]
theorem Wr.kept {S : Nat → Prop} {w w' : World} {b off N : Nat} (h : Wr w b off N) (hk : Kept S w w') (hS : ¬ S b) : Wr w' b off N := fun j hj =>
  let ⟨c, h1, h2⟩ := h j hj
  have hb := hk b (World.block_lt_of_cell? w _ h1) hS
  ⟨c, (World.cell?_of_block (w := w) (a := ⟨b, off + j, none⟩) hb).trans h1, (World.frozen?_of_block (w := w) (a := ⟨b, off + j, none⟩) hb).trans h2⟩
theorem RowAt.kept {S : Nat → Prop} {w w' : World} {b off : Nat} {r : List Value} (h : RowAt w b off r) (hk : Kept S w w') (hS : ¬ S b) : RowAt w' b off r := fun j c hc => by
  rw [World.cell?_of_block (w := w) (a := ⟨b, off + j, none⟩) (hk b (World.block_lt_of_cell? w _ (h j c hc)) hS)]
  exact h j c hc
theorem wr_box (w : World) (cs : Array Value) (t : TypeId) : Wr (w.alloc (.cells cs t)) w.heap.size 0 cs.size := fun j hj =>
  ⟨cs[j], by rw [cell_of_row _ _ _ cs t (0, 0) (heap_alloc_new w _), Nat.zero_add, Array.getElem?_eq_getElem hj], by simp only [World.frozen?]; rw [heap_alloc_new w]; simp⟩

/-- What PoolNew hands back. -/
def PoolIs (w' : World) (c lo N : Nat) (v : Value) : Prop :=
  Wr w' c 0 (N * 9) ∧ (∀ j, j < N → RowAt w' c (j * 9) zeroRow) ∧ w'.ownsRow lo 3 1 v N ((downs N N).map (Value.int .i64)) ∧ c < lo ∧ lo ≤ w'.heap.size


set_option maxRecDepth 100000 in
set_option maxHeartbeats 1000000 in
theorem impl_PoolNew_out (n : Int) (hn : n < 0 ∨ 4000 < n) (w : World) :
    Calls Try.prog 20 #[.int .i64 n] w fun e w' => e = .returned (.tuple #[.agg #[.slice none 0 0, .slice none 0 0], .bool false]) ∧ Below w.heap.size w w' := by
  have hin : ∀ W, Calls Try.prog 39 #[.int .i64 n, .int .i64 0, .int .i64 4000] W fun e w' => e = .returned (.bool false) ∧ W = w' := fun W => (within_c n 0 4000 W).mono fun e w' ⟨h1, h2⟩ => ⟨by rw [h1, decide_eq_false (by omega)], h2⟩
  go_enter Try.func20, Try.ntmps20
  go_wp2_with (go_at_call 39; refine (hin _).mono ?_; rintro e w1 ⟨rfl, rfl⟩)
  go_returns
  exact ⟨rfl, by go_grown⟩


set_option maxRecDepth 100000 in
set_option maxHeartbeats 2000000 in
theorem impl_PoolNew_in (N : Nat) (hN : N ≤ 4000) (w : World) :
    Calls Try.prog 20 #[.int .i64 N] w fun e w' => ∃ v, e = .returned (.tuple #[.agg #[.slice (some ⟨w.heap.size + 1, 0, none⟩) N N, v], .bool true]) ∧ PoolIs w' (w.heap.size + 1) (w.heap.size + 3) N v ∧ Below w.heap.size w w' := by
  obtain ⟨i0, hi, hi0, hi1, hi2⟩ := info_parts info_CellS
  have I := Lib.hid hi; have I0 := Lib.hid hi0; have I1 := Lib.hid hi1; have I2 := Lib.hid hi2
  clear hi hi0 hi1 hi2
  obtain ⟨i1, hi, hi0, hi1, hi2⟩ := info_parts info_IntSn
  have J := Lib.hid hi; have J0 := Lib.hid hi0; have J1 := Lib.hid hi1; have J2 := Lib.hid hi2
  clear hi hi0 hi1 hi2
  have hin : ∀ W, Calls Try.prog 39 #[.int .i64 N, .int .i64 0, .int .i64 4000] W fun e w' => e = .returned (.bool true) ∧ W = w' := fun W => (within_c N 0 4000 W).mono fun e w' ⟨h1, h2⟩ => ⟨by rw [h1, decide_eq_true (by omega)], h2⟩
  go_enter Try.func20, Try.ntmps20
  go_wp2_with (first | (go_at_call 39; refine (hin _).mono ?_; rintro e w1 ⟨rfl, rfl⟩) | (at_make; refine wpList_makeN rfl _ _ _ rfl 78 i0 _ 9 Try.underlying35 I.out I0.out I1.out rfl N rfl rfl (by rw [I2.out]; omega) (by omega) ?_; intro w1 hb1 hs1 hA1 hr1; simp only [World.size_alloc] at hb1 hs1 hA1 hr1))
  have hbR : Below w.heap.size w w1 := Below.trans (by go_grown) (hb1.mono (by omega))
  obtain ⟨w2, hw2⟩ : ∃ w2, w2 = w1.alloc (Obj.cells #[Value.slice (some ⟨w.heap.size + 1, 0, none⟩) N N, Value.slice none 0 0] 38) := ⟨_, rfl⟩
  have hz2 : w2.heap.size = w.heap.size + 3 := by rw [hw2]; simp; omega
  have hb12 : Below w1.heap.size w1 w2 := by rw [hw2]; go_grown
  have hWR : Wr w2 w.heap.size 0 2 := Wr.below ((wr_box w #[Value.slice none 0 0, Value.slice none 0 0] 38).kept (S := fun k => w.heap.size < k) (fun k h1 h2 => hb1.block k (by simp at h1; omega)) (by omega)) hb12
  have hWB : Wr w2 (w.heap.size + 2) 0 2 := by rw [hw2, show w.heap.size + 2 = w1.heap.size by omega]; exact wr_box w1 #[_, _] _
  have hRB : RowAt w2 (w.heap.size + 2) 0 [.slice (some ⟨w.heap.size + 1, 0, none⟩) N N, .slice none 0 0] := by rw [hw2, show w.heap.size + 2 = w1.heap.size by omega]; exact RowAt.box w1 #[_, _] _
  have hWC : Wr w2 (w.heap.size + 1) 0 (N * 9) := Wr.below (fun j hj => by have := hA1 j hj; simpa using this) hb12
  have hRC : ∀ j, j < N → RowAt w2 (w.heap.size + 1) (j * 9) zeroRow := fun j hj => (hr1 j hj).below hb12
  have hBw : Below w.heap.size w w2 := hbR.trans (hb12.mono (by omega))
  rw [← hw2]
  clear hw2 hb12 hbR hb1 hs1 hA1 hr1
  go_loopw [5] (fun i wr => ∃ (k : Nat) (v : Value), k ≤ N ∧ i = .int .i64 ((N : Int) - 1 - k) ∧ RowAt wr (w.heap.size + 2) 0 [.slice (some ⟨w.heap.size + 1, 0, none⟩) N N, v] ∧ Wr wr (w.heap.size + 2) 0 2 ∧ Wr wr w.heap.size 0 2 ∧ wr.ownsRow (w.heap.size + 3) 3 1 v k ((downs N k).map (Value.int .i64)) ∧ Wr wr (w.heap.size + 1) 0 (N * 9) ∧ (∀ j, j < N → RowAt wr (w.heap.size + 1) (j * 9) zeroRow) ∧ w.heap.size + 3 ≤ wr.heap.size ∧ Below w.heap.size w wr) (fun i _ => (intOf i + 1).toNat)
  case atStart => exact ⟨0, .slice none 0 0, by omega, by simp, hRB, hWB, hWR, own_none, hWC, hRC, by omega, hBw⟩
  case round =>
    clear hRB hWB hWR hWC hRC hBw hz2 w2
    obtain ⟨k, v, hk, rfl, hRB, hWB, hWR, O, hWC, hRC, hz, hBw⟩ := hrel
    by_cases hlt : k < N
    · replace O := Lib.hid O; replace hRC := Lib.hid hRC; replace hWC := Lib.hid hWC; replace hWR := Lib.hid hWR
      obtain ⟨q0, q1⟩ : wr.cell? ⟨w.heap.size + 2, 0, none⟩ = some (.slice (some ⟨w.heap.size + 1, 0, none⟩) N N) ∧ wr.cell? ⟨w.heap.size + 2, 1, none⟩ = some v := ⟨hRB 0 _ rfl, hRB 1 _ rfl⟩
      obtain ⟨i, hi⟩ : ∃ i : Int, i = (N : Int) - 1 - k := ⟨_, rfl⟩
      rw [← hi]
      have hi0 : 0 ≤ i := by omega
      have hi9 : i ≤ 4000 := by omega
      replace hi := Lib.hid hi
      replace hRB := Lib.hid hRB
      have hB1 := hWB
      clear hWB
      replace hB1 := Lib.hid hB1
      go_wp2_with (at_builtin; refine wpList_append_lies _ rfl _ _ _ rfl (w.heap.size + 3) 3 i1 _ 1 8 Try.underlying36 J.out J0.out J1.out J2.out rfl (by omega) v k ((downs N k).map (Value.int .i64)) rfl (own_below O.out (by go_grown)) ⟨wr.heap.size, 0, none⟩ 1 1 [.int .i64 i] rfl rfl (World.news_of_block (cs := #[.int .i64 i]) (t := 3) (fr := (0, 0)) (heap_alloc_new' _ _ _ (by simp))) (by intro u hu; simp at hu; subst hu; rfl) (by omega) (by unfold maxLen; omega) (by omega) (by simp; omega) _ rfl ?_; intro g cap w3 hown hgrow hat hlt3; have hk3 := kept_of hgrow (w := wr) (by go_grown); have hz3 := hgrow.size; (simp only [World.size_alloc] at hz3 hat); have hb3 := below_grown2 (wr := wr) hgrow (by go_grown) (Below.refl (w.heap.size + 3) wr) hz O.out; have hown1 := own_base O.out; have hWB3 := hB1.out.kept hk3 (fun e => by have := (hown1 _ e.symm).1; omega); obtain ⟨cB, eB, fB⟩ := hWB3 1 (by omega))
      replace hi := hi.out; replace hRB := hRB.out; replace O := O.out; replace hRC := hRC.out; replace hWC := hWC.out; replace hWR := hWR.out
      rw [← show (downs N (k + 1)).map (Value.int .i64) = (downs N k).map (Value.int .i64) ++ [.int .i64 i] by rw [downs_step, hi]] at hown
      have hown3 := own_base hown
      have nR : ∀ c, c < w.heap.size + 3 → ¬ (some c = v.ownBlock) := fun c hc e => by have := (hown1 _ e.symm).1; omega
      go_roundw
      case rel =>
        have hk4 := (Kept.refl (· = w.heap.size + 2) w3).set (p := ⟨w.heap.size + 2, 1, none⟩) rfl (Value.slice (some ⟨g, 0, none⟩) (k + 1) cap)
        refine ⟨k + 1, .slice (some ⟨g, 0, none⟩) (k + 1) cap, by omega, by rw [hi]; congr 1; omega, ?_, hWB3.set 1 _, (hWR.kept hk3 (nR _ (by omega))).kept hk4 (by omega), own_kept hown hk4 (fun g' hg' e => by have := (hown3 g' hg').1; omega), (hWC.kept hk3 (nR _ (by omega))).kept hk4 (by omega), fun j hj => ((hRC j hj).kept hk3 (nR _ (by omega))).kept hk4 (by omega), ?_, ?_⟩
        · have h0 := (hRB.kept hk3 (nR _ (by omega)))
          intro j c hc
          match j, hc with
          | 0, hc =>
            refine (cell_setCell_ne _ _ _ _ _ (by omega)).trans ?_
            exact h0 0 c hc
          | 1, hc =>
            obtain rfl := Option.some.inj hc
            exact cell_setCell_eq _ _ _ _ eB
          | j + 2, hc => simp at hc
        · simp [World.setCell]; omega
        · exact (hBw.trans (hb3.mono (by omega))).setCell (by dsimp only; omega) _
      case measure => simp [intOf]; omega
    · obtain rfl : k = N := by omega
      have hi : (k : Int) - 1 - k = -1 := by omega
      rw [hi]
      clear hi
      obtain ⟨q0, q1⟩ : wr.cell? ⟨w.heap.size + 2, 0, none⟩ = some (.slice (some ⟨w.heap.size + 1, 0, none⟩) k k) ∧ wr.cell? ⟨w.heap.size + 2, 1, none⟩ = some v := ⟨hRB 0 _ rfl, hRB 1 _ rfl⟩
      obtain ⟨⟨c0, e0, f0⟩, ⟨c1, e1, f1⟩⟩ := And.intro (hWR 0 (by omega)) (hWR 1 (by omega))
      obtain ⟨va, vn, vc, rfl⟩ : ∃ a n c, v = .slice a n c := by rcases O.2 with ⟨rfl, _⟩ | ⟨_, _, _, rfl, _⟩ <;> exact ⟨_, _, _, rfl⟩
      have hown1 := own_base O
      replace O := Lib.hid O; replace hRC := Lib.hid hRC; replace hWC := Lib.hid hWC
      clear hWR hWB hRB
      rw [Nat.zero_add] at e0 f0 e1 f1
      have g0 := cell_setCell_eq wr w.heap.size 0 (.slice (some ⟨w.heap.size + 1, 0, none⟩) k k) e0
      have g1 : ((wr.setCell ⟨w.heap.size, 0, none⟩ (.slice (some ⟨w.heap.size + 1, 0, none⟩) k k)).setCell ⟨w.heap.size, 1, none⟩ (.slice va vn vc)).cell? ⟨w.heap.size, 0, none⟩ = some (.slice (some ⟨w.heap.size + 1, 0, none⟩) k k) := (cell_setCell_ne _ _ _ _ _ (by omega)).trans g0
      have g2 := cell_setCell_eq (wr.setCell ⟨w.heap.size, 0, none⟩ (.slice (some ⟨w.heap.size + 1, 0, none⟩) k k)) w.heap.size 1 (.slice va vn vc) ((cell_setCell_ne _ _ _ _ _ (by omega)).trans e1)
      go_wp2
      refine bodyPost_ret (v := .tuple #[.agg #[.slice (some ⟨w.heap.size + 1, 0, none⟩) k k, .slice va vn vc], .bool true]) (by simp [results, Try.results20, go_sem, *]) rfl ?_
      have hk4 := ((Kept.refl (· = w.heap.size) wr).set (p := ⟨w.heap.size, 0, none⟩) rfl (Value.slice (some ⟨w.heap.size + 1, 0, none⟩) k k)).set (p := ⟨w.heap.size, 1, none⟩) rfl (Value.slice va vn vc)
      refine ⟨_, rfl, ⟨hWC.out.kept hk4 (by omega), fun j hj => (hRC.out j hj).kept hk4 (by omega), own_kept O.out hk4 (fun g' hg' e => by have := (hown1 g' hg').1; omega), by omega, by simp [World.setCell]; omega⟩, (hBw.setCell (by dsimp only; omega) _).setCell (by dsimp only; omega) _⟩


set_option maxRecDepth 100000 in
set_option maxHeartbeats 1000000 in
theorem spec_PoolNew_out (n : Int) (hn : n < 0 ∨ 4000 < n) (w : World) :
    Calls Try.prog 19 #[.int .i64 n] w fun e w' => e = .returned (.tuple #[.agg #[.slice none 0 0, .slice none 0 0], .bool false]) ∧ Below w.heap.size w w' := by
  by_cases h : n < 0
  · have d1 : decide (n < 0) = true := decide_eq_true h
    go_enter Try.func19, Try.ntmps19
    go_wp2
    go_returns
    exact ⟨rfl, by go_grown⟩
  · have h2 : 4000 < n := by omega
    have d1 : decide (n < 0) = false := decide_eq_false h
    have d2 : decide (4000 < n) = true := decide_eq_true h2
    clear h hn h2
    go_enter Try.func19, Try.ntmps19
    go_wp2
    go_returns
    exact ⟨rfl, by go_grown⟩


set_option maxRecDepth 100000 in
set_option maxHeartbeats 2000000 in
theorem spec_PoolNew_in (N : Nat) (hN : N ≤ 4000) (w : World) :
    Calls Try.prog 19 #[.int .i64 N] w fun e w' => ∃ v, e = .returned (.tuple #[.agg #[.slice (some ⟨w.heap.size + 1, 0, none⟩) N N, v], .bool true]) ∧ PoolIs w' (w.heap.size + 1) (w.heap.size + 3) N v ∧ Below w.heap.size w w' := by
  obtain ⟨i0, hi, hi0, hi1, hi2⟩ := info_parts info_CellS
  have I := Lib.hid hi; have I0 := Lib.hid hi0; have I1 := Lib.hid hi1; have I2 := Lib.hid hi2
  clear hi hi0 hi1 hi2
  obtain ⟨i1, hi, hi0, hi1, hi2⟩ := info_parts info_IntSn
  have J := Lib.hid hi; have J0 := Lib.hid hi0; have J1 := Lib.hid hi1; have J2 := Lib.hid hi2
  clear hi hi0 hi1 hi2
  have d1 : decide ((N : Int) < 0) = false := decide_eq_false (by omega)
  have d2 : decide (4000 < (N : Int)) = false := decide_eq_false (by omega)
  go_enter Try.func19, Try.ntmps19
  go_wp2_with (first | (at_make; refine wpList_makeN rfl _ _ _ rfl 78 i0 _ 9 Try.underlying35 I.out I0.out I1.out rfl N rfl rfl (by rw [I2.out]; omega) (by omega) ?_; intro w1 hb1 hs1 hA1 hr1; simp only [World.size_alloc] at hb1 hs1 hA1 hr1))
  have hbR : Below w.heap.size w w1 := Below.trans (by go_grown) (hb1.mono (by omega))
  obtain ⟨w2, hw2⟩ : ∃ w2, w2 = w1.alloc (Obj.cells #[Value.slice (some ⟨w.heap.size + 1, 0, none⟩) N N, Value.slice none 0 0] 38) := ⟨_, rfl⟩
  have hz2 : w2.heap.size = w.heap.size + 3 := by rw [hw2]; simp; omega
  have hb12 : Below w1.heap.size w1 w2 := by rw [hw2]; go_grown
  have hWR : Wr w2 w.heap.size 0 2 := Wr.below ((wr_box w #[Value.slice none 0 0, Value.slice none 0 0] 38).kept (S := fun k => w.heap.size < k) (fun k h1 h2 => hb1.block k (by simp at h1; omega)) (by omega)) hb12
  have hWB : Wr w2 (w.heap.size + 2) 0 2 := by rw [hw2, show w.heap.size + 2 = w1.heap.size by omega]; exact wr_box w1 #[_, _] _
  have hRB : RowAt w2 (w.heap.size + 2) 0 [.slice (some ⟨w.heap.size + 1, 0, none⟩) N N, .slice none 0 0] := by rw [hw2, show w.heap.size + 2 = w1.heap.size by omega]; exact RowAt.box w1 #[_, _] _
  have hWC : Wr w2 (w.heap.size + 1) 0 (N * 9) := Wr.below (fun j hj => by have := hA1 j hj; simpa using this) hb12
  have hRC : ∀ j, j < N → RowAt w2 (w.heap.size + 1) (j * 9) zeroRow := fun j hj => (hr1 j hj).below hb12
  have hBw : Below w.heap.size w w2 := hbR.trans (hb12.mono (by omega))
  rw [← hw2]
  clear hw2 hb12 hbR hb1 hs1 hA1 hr1
  go_loopw [5] (fun i wr => ∃ (k : Nat) (v : Value), k ≤ N ∧ i = .int .i64 ((N : Int) - 1 - k) ∧ RowAt wr (w.heap.size + 2) 0 [.slice (some ⟨w.heap.size + 1, 0, none⟩) N N, v] ∧ Wr wr (w.heap.size + 2) 0 2 ∧ Wr wr w.heap.size 0 2 ∧ wr.ownsRow (w.heap.size + 3) 3 1 v k ((downs N k).map (Value.int .i64)) ∧ Wr wr (w.heap.size + 1) 0 (N * 9) ∧ (∀ j, j < N → RowAt wr (w.heap.size + 1) (j * 9) zeroRow) ∧ w.heap.size + 3 ≤ wr.heap.size ∧ Below w.heap.size w wr) (fun i _ => (intOf i + 1).toNat)
  case atStart => exact ⟨0, .slice none 0 0, by omega, by simp, hRB, hWB, hWR, own_none, hWC, hRC, by omega, hBw⟩
  case round =>
    clear hRB hWB hWR hWC hRC hBw hz2 w2
    obtain ⟨k, v, hk, rfl, hRB, hWB, hWR, O, hWC, hRC, hz, hBw⟩ := hrel
    by_cases hlt : k < N
    · replace O := Lib.hid O; replace hRC := Lib.hid hRC; replace hWC := Lib.hid hWC; replace hWR := Lib.hid hWR
      obtain ⟨q0, q1⟩ : wr.cell? ⟨w.heap.size + 2, 0, none⟩ = some (.slice (some ⟨w.heap.size + 1, 0, none⟩) N N) ∧ wr.cell? ⟨w.heap.size + 2, 1, none⟩ = some v := ⟨hRB 0 _ rfl, hRB 1 _ rfl⟩
      obtain ⟨i, hi⟩ : ∃ i : Int, i = (N : Int) - 1 - k := ⟨_, rfl⟩
      rw [← hi]
      have hi0 : 0 ≤ i := by omega
      have hi9 : i ≤ 4000 := by omega
      replace hi := Lib.hid hi
      replace hRB := Lib.hid hRB
      have hB1 := hWB
      clear hWB
      replace hB1 := Lib.hid hB1
      go_wp2_with (at_builtin; refine wpList_append_lies _ rfl _ _ _ rfl (w.heap.size + 3) 3 i1 _ 1 8 Try.underlying36 J.out J0.out J1.out J2.out rfl (by omega) v k ((downs N k).map (Value.int .i64)) rfl (own_below O.out (by go_grown)) ⟨wr.heap.size, 0, none⟩ 1 1 [.int .i64 i] rfl rfl (World.news_of_block (cs := #[.int .i64 i]) (t := 3) (fr := (0, 0)) (heap_alloc_new' _ _ _ (by simp))) (by intro u hu; simp at hu; subst hu; rfl) (by omega) (by unfold maxLen; omega) (by omega) (by simp; omega) _ rfl ?_; intro g cap w3 hown hgrow hat hlt3; have hk3 := kept_of hgrow (w := wr) (by go_grown); have hz3 := hgrow.size; (simp only [World.size_alloc] at hz3 hat); have hb3 := below_grown2 (wr := wr) hgrow (by go_grown) (Below.refl (w.heap.size + 3) wr) hz O.out; have hown1 := own_base O.out; have hWB3 := hB1.out.kept hk3 (fun e => by have := (hown1 _ e.symm).1; omega); obtain ⟨cB, eB, fB⟩ := hWB3 1 (by omega))
      replace hi := hi.out; replace hRB := hRB.out; replace O := O.out; replace hRC := hRC.out; replace hWC := hWC.out; replace hWR := hWR.out
      rw [← show (downs N (k + 1)).map (Value.int .i64) = (downs N k).map (Value.int .i64) ++ [.int .i64 i] by rw [downs_step, hi]] at hown
      have hown3 := own_base hown
      have nR : ∀ c, c < w.heap.size + 3 → ¬ (some c = v.ownBlock) := fun c hc e => by have := (hown1 _ e.symm).1; omega
      go_roundw
      case rel =>
        have hk4 := (Kept.refl (· = w.heap.size + 2) w3).set (p := ⟨w.heap.size + 2, 1, none⟩) rfl (Value.slice (some ⟨g, 0, none⟩) (k + 1) cap)
        refine ⟨k + 1, .slice (some ⟨g, 0, none⟩) (k + 1) cap, by omega, by rw [hi]; congr 1; omega, ?_, hWB3.set 1 _, (hWR.kept hk3 (nR _ (by omega))).kept hk4 (by omega), own_kept hown hk4 (fun g' hg' e => by have := (hown3 g' hg').1; omega), (hWC.kept hk3 (nR _ (by omega))).kept hk4 (by omega), fun j hj => ((hRC j hj).kept hk3 (nR _ (by omega))).kept hk4 (by omega), ?_, ?_⟩
        · have h0 := (hRB.kept hk3 (nR _ (by omega)))
          intro j c hc
          match j, hc with
          | 0, hc =>
            refine (cell_setCell_ne _ _ _ _ _ (by omega)).trans ?_
            exact h0 0 c hc
          | 1, hc =>
            obtain rfl := Option.some.inj hc
            exact cell_setCell_eq _ _ _ _ eB
          | j + 2, hc => simp at hc
        · simp [World.setCell]; omega
        · exact (hBw.trans (hb3.mono (by omega))).setCell (by dsimp only; omega) _
      case measure => simp [intOf]; omega
    · obtain rfl : k = N := by omega
      have hi : (k : Int) - 1 - k = -1 := by omega
      rw [hi]
      clear hi
      obtain ⟨q0, q1⟩ : wr.cell? ⟨w.heap.size + 2, 0, none⟩ = some (.slice (some ⟨w.heap.size + 1, 0, none⟩) k k) ∧ wr.cell? ⟨w.heap.size + 2, 1, none⟩ = some v := ⟨hRB 0 _ rfl, hRB 1 _ rfl⟩
      obtain ⟨⟨c0, e0, f0⟩, ⟨c1, e1, f1⟩⟩ := And.intro (hWR 0 (by omega)) (hWR 1 (by omega))
      obtain ⟨va, vn, vc, rfl⟩ : ∃ a n c, v = .slice a n c := by rcases O.2 with ⟨rfl, _⟩ | ⟨_, _, _, rfl, _⟩ <;> exact ⟨_, _, _, rfl⟩
      have hown1 := own_base O
      replace O := Lib.hid O; replace hRC := Lib.hid hRC; replace hWC := Lib.hid hWC
      clear hWR hWB hRB
      rw [Nat.zero_add] at e0 f0 e1 f1
      have g0 := cell_setCell_eq wr w.heap.size 0 (.slice (some ⟨w.heap.size + 1, 0, none⟩) k k) e0
      have g1 : ((wr.setCell ⟨w.heap.size, 0, none⟩ (.slice (some ⟨w.heap.size + 1, 0, none⟩) k k)).setCell ⟨w.heap.size, 1, none⟩ (.slice va vn vc)).cell? ⟨w.heap.size, 0, none⟩ = some (.slice (some ⟨w.heap.size + 1, 0, none⟩) k k) := (cell_setCell_ne _ _ _ _ _ (by omega)).trans g0
      have g2 := cell_setCell_eq (wr.setCell ⟨w.heap.size, 0, none⟩ (.slice (some ⟨w.heap.size + 1, 0, none⟩) k k)) w.heap.size 1 (.slice va vn vc) ((cell_setCell_ne _ _ _ _ _ (by omega)).trans e1)
      go_wp2
      refine bodyPost_ret (v := .tuple #[.agg #[.slice (some ⟨w.heap.size + 1, 0, none⟩) k k, .slice va vn vc], .bool true]) (by simp [results, Try.results19, go_sem, *]) rfl ?_
      have hk4 := ((Kept.refl (· = w.heap.size) wr).set (p := ⟨w.heap.size, 0, none⟩) rfl (Value.slice (some ⟨w.heap.size + 1, 0, none⟩) k k)).set (p := ⟨w.heap.size, 1, none⟩) rfl (Value.slice va vn vc)
      refine ⟨_, rfl, ⟨hWC.out.kept hk4 (by omega), fun j hj => (hRC.out j hj).kept hk4 (by omega), own_kept O.out hk4 (fun g' hg' e => by have := (hown1 g' hg').1; omega), by omega, by simp [World.setCell]; omega⟩, (hBw.setCell (by dsimp only; omega) _).setCell (by dsimp only; omega) _⟩

end Go.Proofs.Ytakpmnagdpiceaa
