/- Values and cells: when they are right; the walks of the program's and the reference's tests. -/
import Derived.Test.YtajbgkpjmgmdhaaRows
import Derived.Test.YtajbgkpjmgmdhaaTypes
import Derived.Test.YtajbgkpjmgmdhaaWithin
namespace Go.Proofs.Ytajbgkpjmgmdhaa
open Go.RowKit
set_option linter.unusedVariables false
set_option linter.unusedSimpArgs false
attribute [local go_sem] Ext.cell

def valOk (x : GVal) (m : Int) : Bool :=
  if x.kind = 1 then decide (-4611686018427387904 ≤ x.n ∧ x.n ≤ 4611686018427387903) && x.s.toList.isEmpty
  else if x.kind = 2 then decide (x.n = 0)
  else if x.kind = 4 ∨ x.kind = 5 then decide (x.n = 0) && !x.s.toList.isEmpty
  else if x.kind = 3 ∨ x.kind = 7 then decide (x.n = 0) && x.s.toList.isEmpty
  else if x.kind = 6 then decide (0 ≤ x.n ∧ x.n < m) && x.s.toList.isEmpty
  else false

def zeroVal (x : GVal) : Bool := decide (x.kind = 0) && decide (x.n = 0) && x.s.toList.isEmpty

def cellOk (c : GCell) (m : Int) : Bool :=
  decide (1 ≤ c.kind ∧ c.kind ≤ 6) && valOk c.a m && (if c.kind = 2 ∨ c.kind = 6 then valOk c.b m else zeroVal c.b) &&
    (c.s.toList.isEmpty || decide (c.kind = 1)) && decide (c.n = 0 ∨ c.kind = 3 ∨ c.kind = 4)

set_option maxHeartbeats 1000000 in
theorem valOk_c (x : GVal) (m : Int) (hm : 0 ≤ m) (hm' : m ≤ 1048576) (w : World) :
    Calls Try.prog 78 #[.agg #[.int .i64 x.kind, .int .i64 x.n, .string x.s], .int .i64 m] w fun e w' => e = .returned (.bool (valOk x m)) ∧ Below w.heap.size w w' := by
  obtain ⟨k, n, s⟩ := x
  go_enter Try.func78, Try.ntmps78
  go_wp2_with (go_at_call 45; ((with_reducible refine (within_c _ _ _ _).mono ?_); rintro e w1 ⟨rfl, rfl⟩))
  all_goals (go_returns; refine ⟨?_, by go_grown⟩; (try clear hc hf); first | rfl | (simp_all [valOk, Hid]; done) | (simp_all [valOk, Hid] <;> (first | omega | grind)))

set_option maxHeartbeats 1000000 in
theorem l11Val_c (x : GVal) (hn : I64 x.n) (h : List GCell) (u : Value) (lo : Nat) (hl : h.length ≤ 1048576) (w : World) (hu : Sl GCell.R 9 lo w u h) :
    Calls Try.prog 86 #[u, .agg #[.int .i64 x.kind, .int .i64 x.n, .string x.s]] w fun e w' => e = .returned (.bool (valOk x h.length)) ∧ Below w.heap.size w w' := by
  obtain ⟨k, n, s⟩ := x
  dsimp only at hn
  obtain ⟨a, c, rfl⟩ := hu.form
  go_enter Try.func86, Try.ntmps86
  go_wp2
  · (refine wp_region_ext_lit (by kernel_rfl) (by kernel_rfl) ?_; (repeat (any_goals (first | go_big_quiet_step ((first | (go_at_call 89; exact Calls.ext_same (Wrap_c _ hn _)))) | quiet_step ((first | (go_at_call 89; exact Calls.ext_same (Wrap_c _ hn _)))) | (refine wpQuiet_step (fun K hK => ?_); go_simp; split <;> (refine hK _ ?_; clear hK K))))); all_goals (refine wpQuiet_nil ?_; rintro w1 ⟨⟨w2, hb⟩, rfl⟩; have hw : Below w.heap.size w w1 := Below.trans (by go_grown) (hb.mono (by go_grown)); obtain ⟨hc, hf⟩ := bcell hb; have hz := hw.size; have hz1 := hb.size; have hs0 : w.heap.size < w1.heap.size := (by have h := hz1; (try simp only [World.size_alloc, World.size_setCell, World.size_drew] at h); omega); clear hb))
    all_goals go_wp2
    all_goals (go_returns; refine ⟨?_, by go_grown⟩; (try clear hc hf); first | rfl | (simp_all [valOk, wrap63_eq, Hid]; done) | (simp_all [valOk, wrap63_eq, Hid] <;> (first | omega | grind)))
  all_goals (go_returns; refine ⟨?_, by go_grown⟩; (try clear hc hf); first | rfl | (simp_all [valOk, Hid]; done) | (simp_all [valOk, Hid] <;> (first | omega | grind)))
set_option maxHeartbeats 2000000 in
theorem cellOk_c (x : GCell) (m : Int) (hm : 0 ≤ m) (hm' : m ≤ 1048576) (w : World) :
    Calls Try.prog 72 #[.agg #[.int .i64 x.kind, .int .i64 x.n, .string x.s, .int .i64 x.a.kind, .int .i64 x.a.n, .string x.a.s, .int .i64 x.b.kind, .int .i64 x.b.n, .string x.b.s], .int .i64 m] w fun e w' => e = .returned (.bool (cellOk x m)) ∧ Below w.heap.size w w' := by
  obtain ⟨k, n, s, ⟨ak, an, az⟩, ⟨bk, bn, bz⟩⟩ := x
  dsimp only
  generalize hva : valOk ⟨ak, an, az⟩ m = va
  generalize hvb : valOk ⟨bk, bn, bz⟩ m = vb
  replace hva := Lib.hid hva; replace hvb := Lib.hid hvb
  go_enter Try.func72, Try.ntmps72
  go_upto_region 1 with fail
  have hw : Below w.heap.size w (w.alloc (.cells #[.int .i64 k, .int .i64 n, .string s, .int .i64 ak, .int .i64 an, .string az, .int .i64 bk, .int .i64 bn, .string bz] 30)) := by go_grown
  have B : RowAt (w.alloc (.cells #[.int .i64 k, .int .i64 n, .string s, .int .i64 ak, .int .i64 an, .string az, .int .i64 bk, .int .i64 bn, .string bz] 30)) w.heap.size 0 [.int .i64 k, .int .i64 n, .string s, .int .i64 ak, .int .i64 an, .string az, .int .i64 bk, .int .i64 bn, .string bz] := RowAt.box _ _ _
  generalize w.alloc (.cells #[.int .i64 k, .int .i64 n, .string s, .int .i64 ak, .int .i64 an, .string az, .int .i64 bk, .int .i64 bn, .string bz] 30) = w0 at *
  go_upto_region 1 with fail
  go_cut [5] (fun sx wx => sx = .bool (decide (k = 2 ∨ k = 6)) ∧ Below w.heap.size w wx ∧ RowAt wx w.heap.size 0 [.int .i64 k, .int .i64 n, .string s, .int .i64 ak, .int .i64 an, .string az, .int .i64 bk, .int .i64 bn, .string bz])
  case first =>
    obtain ⟨b_0, b_1, b_2, b_3, b_4, b_5, b_6, b_7, b_8⟩ := B.box9; have hsB := World.block_lt_of_cell? _ _ b_0; dsimp only at hsB
    cases h2 : (k == 2) <;> cases h6 : (k == 6)
    all_goals go_wp2_with fail
    all_goals (go_meet; refine ⟨?_, by assumption, by assumption⟩; first | rfl | (simp_all [Hid]; done) | (simp_all [Hid] <;> (first | omega | grind)))
  obtain ⟨rfl, hw, B⟩ := hcut
  generalize htwo : decide (k = 2 ∨ k = 6) = two
  replace htwo := Lib.hid htwo
  go_upto_region 2 with fail
  go_cut [14] (fun sx wx => sx = .bool (!(decide (1 ≤ k ∧ k ≤ 6) && va)) ∧ Below w.heap.size w wx ∧ RowAt wx w.heap.size 0 [.int .i64 k, .int .i64 n, .string s, .int .i64 ak, .int .i64 an, .string az, .int .i64 bk, .int .i64 bn, .string bz])
  case first =>
    obtain ⟨b_0, b_1, b_2, b_3, b_4, b_5, b_6, b_7, b_8⟩ := B.box9; have hsB := World.block_lt_of_cell? _ _ b_0; dsimp only at hsB
    cases h1 : decide (1 ≤ k ∧ k ≤ 6)
    all_goals go_wp2_with (first | (go_at_call 45; ((with_reducible refine (within_c _ _ _ _).mono ?_); rintro e w1 ⟨rfl, rfl⟩)) | (go_at_call 78; ((with_reducible refine (hva.out ▸ valOk_c ⟨ak, an, az⟩ m hm hm' _).mono ?_); rintro e w1 ⟨rfl, hb⟩; have hw := hw.trans (hb.mono hw.size); have B := B.below hb; obtain ⟨b_0, b_1, b_2, b_3, b_4, b_5, b_6, b_7, b_8⟩ := B.box9; have hsB := World.block_lt_of_cell? _ _ b_0; dsimp only at hsB; clear hb)))
    all_goals (go_meet; refine ⟨?_, by assumption, by assumption⟩; first | rfl | (simp_all [Hid]; done) | (simp_all [Hid] <;> (first | omega | grind)))
  obtain ⟨rfl, hw, B⟩ := hcut
  generalize hp : (decide (1 ≤ k ∧ k ≤ 6) && va) = p
  replace hp := Lib.hid hp
  cases p
  · go_wp2
    all_goals (go_returns; refine ⟨?_, by go_grown⟩; (try clear hc hf); first | rfl | (simp_all [cellOk, Hid]; done) | (simp_all [cellOk, Hid] <;> (first | omega | grind)))
  go_upto_region 4 with fail
  go_cut [26] (fun sx wx => sx = .bool (!(if two then vb else zeroVal ⟨bk, bn, bz⟩)) ∧ Below w.heap.size w wx ∧ RowAt wx w.heap.size 0 [.int .i64 k, .int .i64 n, .string s, .int .i64 ak, .int .i64 an, .string az, .int .i64 bk, .int .i64 bn, .string bz])
  case first =>
    obtain ⟨b_0, b_1, b_2, b_3, b_4, b_5, b_6, b_7, b_8⟩ := B.box9; have hsB := World.block_lt_of_cell? _ _ b_0; dsimp only at hsB
    cases two <;> cases e1 : (bk == 0) <;> cases e2 : (bn == 0) <;> cases e3 : bz.toList.isEmpty
    all_goals go_wp2_with (first | (go_at_call 78; ((with_reducible refine (hvb.out ▸ valOk_c ⟨bk, bn, bz⟩ m hm hm' _).mono ?_); rintro e w1 ⟨rfl, hb⟩; have hw := hw.trans (hb.mono hw.size); have B := B.below hb; obtain ⟨b_0, b_1, b_2, b_3, b_4, b_5, b_6, b_7, b_8⟩ := B.box9; have hsB := World.block_lt_of_cell? _ _ b_0; dsimp only at hsB; clear hb)))
    all_goals (go_meet; refine ⟨?_, by assumption, by assumption⟩; first | rfl | (simp_all [Hid, zeroVal]; done) | (simp_all [Hid, zeroVal] <;> (first | omega | grind)))
  obtain ⟨rfl, hw, B⟩ := hcut
  generalize hq : (if two then vb else zeroVal ⟨bk, bn, bz⟩) = q
  replace hq := Lib.hid hq
  cases q
  · go_wp2
    all_goals (go_returns; refine ⟨?_, by go_grown⟩; (try clear hc hf); first | rfl | (simp_all [cellOk, Hid]; done) | (simp_all [cellOk, Hid] <;> (first | omega | grind)))
  obtain ⟨b_0, b_1, b_2, b_3, b_4, b_5, b_6, b_7, b_8⟩ := B.box9
  go_wp2
  all_goals (go_returns; refine ⟨?_, by go_grown⟩; (try clear hc hf); first | rfl | (simp_all [cellOk, Hid]; done) | (simp_all [cellOk, Hid] <;> (first | omega | grind)))

end Go.Proofs.Ytajbgkpjmgmdhaa
