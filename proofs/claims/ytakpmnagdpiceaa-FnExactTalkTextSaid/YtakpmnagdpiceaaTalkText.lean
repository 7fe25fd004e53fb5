/- TalkText: both give the same text. -/
import Derived.Test.YtakpmnagdpiceaaEq
import Derived.Test.YtakpmnagdpiceaaSz
import Derived.Test.YtakpmnagdpiceaaTo
import Derived.Deep.RegionHeld3
namespace Go.Proofs.Ytakpmnagdpiceaa
open Go.RowKit
set_option linter.unusedVariables false
set_option linter.unusedSimpArgs false
attribute [local go_sem] Ext.cell

def joined (sep : ByteArray) (l : List ByteArray) (s : ByteArray) : ByteArray := l.foldl (fun o x => o ++ x ++ sep) s
def talkText (x : GTalk) (e : ByteArray) : ByteArray := joined ⟨#[32, 105, 110, 32]⟩ x.defs (joined ⟨#[32]⟩ x.types ⟨#[]⟩) ++ e

theorem joined_size (sep : ByteArray) (l : List ByteArray) (s : ByteArray) : ((joined sep l s).size : Int) = s.size + (l.map fun x : ByteArray => (x.size : Int)).sum + l.length * sep.size := by
  induction l generalizing s with
  | nil => simp [joined]
  | cons a l ih =>
    have := ih (s ++ a ++ sep)
    simp only [joined, List.foldl_cons, List.map_cons, List.sum_cons, List.length_cons] at this ⊢
    rw [this]
    simp only [ByteArray.size_append, Int.natCast_add, Int.natCast_succ, Int.add_mul, Int.one_mul]
    omega
theorem joined_take {sep : ByteArray} {l : List ByteArray} {s : ByteArray} {k : Nat} {p : ByteArray} (h : l[k]? = some p) : joined sep (l.take (k + 1)) s = joined sep (l.take k) s ++ p ++ sep := by
  rw [take_snoc' h]; simp [joined, List.foldl_append]


set_option maxHeartbeats 1000000 in
theorem impl_TalkText_c (x : GTalk) (r : List Value) (lo : Nat) (e : ByteArray) (he : e.size ≤ 1048576) (hb : x.bulk ≤ 1048576) (w : World) (hx : GTalk.R lo w r x) :
    Calls Try.prog 17 #[.agg r.toArray, .string e] w fun en w' => en = .returned (.string (talkText x e)) ∧ Below w.heap.size w w' := by
  obtain ⟨x0, x1⟩ := x
  obtain ⟨u0, u1, rfl, -, a0, a1⟩ := hx
  simp only [GTalk.bulk] at hb
  dsimp only at *
  obtain ⟨p0, c0, rfl, l0, m0, h0⟩ := a0
  obtain ⟨p1, c1, rfl, l1, m1, h1⟩ := a1
  have n0 := length_le_bulkS size_nonneg x0
  have n1 := length_le_bulkS size_nonneg x1
  have b0 := bulkS_nonneg size_nonneg x0
  have b1 := bulkS_nonneg size_nonneg x1
  obtain ⟨n, hn⟩ : ∃ n, n = x0.length := ⟨_, rfl⟩
  obtain ⟨m, hm⟩ : ∃ n, n = x1.length := ⟨_, rfl⟩
  rw [← hn] at l0 n0 ⊢
  rw [← hm] at l1 n1 ⊢
  have X0 := Lib.hid hn; have X1 := Lib.hid hm
  clear hn hm
  have S0 : ∀ k, ((joined ⟨#[32]⟩ (x0.take k) ⟨#[]⟩).size : Int) ≤ 2097152 := fun k => by
    rw [joined_size]
    have q1 := sum_take_le size_nonneg x0 k
    have q2 : ((x0.take k).length : Int) ≤ x0.length := by simp [List.length_take]; omega
    have q3 := X0.out
    have q4 : bulkS (fun s : ByteArray => (s.size : Int)) x0 = x0.length + (x0.map fun s : ByteArray => (s.size : Int)).sum := rfl
    have q5 : ((⟨#[]⟩ : ByteArray).size : Int) = 0 := rfl
    have q6 : ((⟨#[32]⟩ : ByteArray).size : Int) = 1 := rfl
    rw [q5, q6]; omega
  have S1 : ∀ k, ((joined ⟨#[32, 105, 110, 32]⟩ (x1.take k) (joined ⟨#[32]⟩ x0 ⟨#[]⟩)).size : Int) ≤ 8388608 := fun k => by
    rw [joined_size]
    have q0 := S0 x0.length
    rw [List.take_length] at q0
    have q1 := sum_take_le size_nonneg x1 k
    have q2 : ((x1.take k).length : Int) ≤ x1.length := by simp [List.length_take]; omega
    have q3 := X1.out
    have q4 : bulkS (fun s : ByteArray => (s.size : Int)) x1 = x1.length + (x1.map fun s : ByteArray => (s.size : Int)).sum := rfl
    have q6 : ((⟨#[32, 105, 110, 32]⟩ : ByteArray).size : Int) = 4 := rfl
    rw [q6]; omega
  have T0 := Lib.hid S0; have T1 := Lib.hid S1
  clear S0 S1 b0 b1
  go_enter Try.func17, Try.ntmps17
  go_wp2_with fail
  go_loopw [5, 13] (fun o i wr => ∃ k : Nat, k ≤ n ∧ i = .int .i64 k ∧ o = .string (joined ⟨#[32]⟩ (x0.take k) ⟨#[]⟩) ∧ Below w.heap.size w wr ∧ wr.cell? ⟨w.heap.size, 1, none⟩ = some (.slice p1 m c1)) (fun _ i _ => n - (intOf i).toNat)
  case atStart => exact ⟨0, by omega, rfl, rfl, by go_grown, by simp [go_sem]⟩
  case round =>
    obtain ⟨k, hk, rfl, rfl, hw, hcell⟩ := hrel
    by_cases hlt : k < n
    · obtain ⟨b1, o1, p, s1, _, rfl, P1, ⟨rfl, hp⟩, r1⟩ := (h0.below StrR.good hw).get X0 hlt
      have R1 : wr.cell? ⟨b1, o1 + k, none⟩ = some (.string p) := by simpa using r1 0 _ rfl
      clear r1 hp
      have q := T0.out k
      have q' := T0.out (k + 1)
      have J := Lib.hid (joined_take (sep := ⟨#[32]⟩) (s := ⟨#[]⟩) P1.out)
      have q1 := congrArg (fun b : ByteArray => (b.size : Int)) J.out
      simp only [ByteArray.size_append, Int.natCast_add] at q1
      generalize joined ⟨#[32]⟩ (x0.take k) ⟨#[]⟩ = jk at *
      have hs1 : jk.size + p.size ≤ 9223372036854775807 := by omega
      have hs2 : jk.size + p.size + 1 ≤ 9223372036854775807 := by omega
      clear q q' q1
      go_wp2
      go_roundw
      case rel => exact ⟨k + 1, by omega, by go_num, by rw [J.out], hw, hcell⟩
      case measure => simp [intOf]; omega
    · obtain rfl : k = n := by omega
      rw [take_full X0]
      generalize hj0 : joined ⟨#[32]⟩ x0 ⟨#[]⟩ = j0 at *
      have J0 := Lib.hid hj0; clear hj0
      go_wp2_with fail
      go_loopw [5, 25] (fun o i wr => ∃ k : Nat, k ≤ m ∧ i = .int .i64 k ∧ o = .string (joined ⟨#[32, 105, 110, 32]⟩ (x1.take k) j0) ∧ Below w.heap.size w wr) (fun _ i _ => m - (intOf i).toNat)
      case atStart => exact ⟨0, by omega, rfl, rfl, hw⟩
      case round =>
        clear hw hcell
        obtain ⟨k, hk, rfl, rfl, hw⟩ := hrel
        by_cases hlt : k < m
        · obtain ⟨b1, o1, p, s1, _, rfl, P1, ⟨rfl, hp⟩, r1⟩ := (h1.below StrR.good hw).get X1 hlt
          have R1 : wr.cell? ⟨b1, o1 + k, none⟩ = some (.string p) := by simpa using r1 0 _ rfl
          clear r1 hp
          have q := T1.out k
          have q' := T1.out (k + 1)
          have J := Lib.hid (joined_take (sep := ⟨#[32, 105, 110, 32]⟩) (s := j0) P1.out)
          have q1 := congrArg (fun b : ByteArray => (b.size : Int)) J.out
          simp only [ByteArray.size_append, Int.natCast_add] at q1
          generalize joined ⟨#[32, 105, 110, 32]⟩ (x1.take k) j0 = jk at *
          have hs1 : jk.size + p.size ≤ 9223372036854775807 := by omega
          have hs2 : jk.size + p.size + 4 ≤ 9223372036854775807 := by omega
          clear q q' q1
          go_wp2
          go_roundw
          case rel => exact ⟨k + 1, by omega, by go_num, by rw [J.out], hw⟩
          case measure => simp [intOf]; omega
        · obtain rfl : k = m := by omega
          rw [take_full X1]
          have q := T1.out x1.length
          rw [List.take_length] at q
          generalize hj1 : joined ⟨#[32, 105, 110, 32]⟩ x1 j0 = j1 at *
          have J1 := Lib.hid hj1; clear hj1
          have hs1 : j1.size + e.size ≤ 9223372036854775807 := by omega
          go_wp2
          go_returns
          exact ⟨by rw [← J1.out, ← J0.out]; rfl, hw⟩

set_option maxHeartbeats 1000000 in
theorem spec_TalkText_c (x : GTalk) (r : List Value) (lo : Nat) (e : ByteArray) (he : e.size ≤ 1048576) (hb : x.bulk ≤ 1048576) (w : World) (hx : GTalk.R lo w r x) :
    Calls Try.prog 15 #[.agg r.toArray, .string e] w fun en w' => en = .returned (.string (talkText x e)) ∧ Below w.heap.size w w' := by
  obtain ⟨x0, x1⟩ := x
  obtain ⟨u0, u1, rfl, -, a0, a1⟩ := hx
  simp only [GTalk.bulk] at hb
  dsimp only at *
  obtain ⟨p0, c0, rfl, l0, m0, h0⟩ := a0
  obtain ⟨p1, c1, rfl, l1, m1, h1⟩ := a1
  have n0 := length_le_bulkS size_nonneg x0
  have n1 := length_le_bulkS size_nonneg x1
  have b0 := bulkS_nonneg size_nonneg x0
  have b1 := bulkS_nonneg size_nonneg x1
  obtain ⟨n, hn⟩ : ∃ n, n = x0.length := ⟨_, rfl⟩
  obtain ⟨m, hm⟩ : ∃ n, n = x1.length := ⟨_, rfl⟩
  rw [← hn] at l0 n0 ⊢
  rw [← hm] at l1 n1 ⊢
  have X0 := Lib.hid hn; have X1 := Lib.hid hm
  clear hn hm
  have S0 : ∀ k, ((joined ⟨#[32]⟩ (x0.take k) ⟨#[]⟩).size : Int) ≤ 2097152 := fun k => by
    rw [joined_size]
    have q1 := sum_take_le size_nonneg x0 k
    have q2 : ((x0.take k).length : Int) ≤ x0.length := by simp [List.length_take]; omega
    have q3 := X0.out
    have q4 : bulkS (fun s : ByteArray => (s.size : Int)) x0 = x0.length + (x0.map fun s : ByteArray => (s.size : Int)).sum := rfl
    have q5 : ((⟨#[]⟩ : ByteArray).size : Int) = 0 := rfl
    have q6 : ((⟨#[32]⟩ : ByteArray).size : Int) = 1 := rfl
    rw [q5, q6]; omega
  have S1 : ∀ k, ((joined ⟨#[32, 105, 110, 32]⟩ (x1.take k) (joined ⟨#[32]⟩ x0 ⟨#[]⟩)).size : Int) ≤ 8388608 := fun k => by
    rw [joined_size]
    have q0 := S0 x0.length
    rw [List.take_length] at q0
    have q1 := sum_take_le size_nonneg x1 k
    have q2 : ((x1.take k).length : Int) ≤ x1.length := by simp [List.length_take]; omega
    have q3 := X1.out
    have q4 : bulkS (fun s : ByteArray => (s.size : Int)) x1 = x1.length + (x1.map fun s : ByteArray => (s.size : Int)).sum := rfl
    have q6 : ((⟨#[32, 105, 110, 32]⟩ : ByteArray).size : Int) = 4 := rfl
    rw [q6]; omega
  have T0 := Lib.hid S0; have T1 := Lib.hid S1
  clear S0 S1 b0 b1
  go_enter Try.func15, Try.ntmps15
  go_wp2_with fail
  go_loopw [5, 13] (fun o i wr => ∃ k : Nat, k ≤ n ∧ i = .int .i64 k ∧ o = .string (joined ⟨#[32]⟩ (x0.take k) ⟨#[]⟩) ∧ Below w.heap.size w wr ∧ wr.cell? ⟨w.heap.size, 1, none⟩ = some (.slice p1 m c1)) (fun _ i _ => n - (intOf i).toNat)
  case atStart => exact ⟨0, by omega, rfl, rfl, by go_grown, by simp [go_sem]⟩
  case round =>
    obtain ⟨k, hk, rfl, rfl, hw, hcell⟩ := hrel
    by_cases hlt : k < n
    · obtain ⟨b1, o1, p, s1, _, rfl, P1, ⟨rfl, hp⟩, r1⟩ := (h0.below StrR.good hw).get X0 hlt
      have R1 : wr.cell? ⟨b1, o1 + k, none⟩ = some (.string p) := by simpa using r1 0 _ rfl
      clear r1 hp
      have q := T0.out k
      have q' := T0.out (k + 1)
      have J := Lib.hid (joined_take (sep := ⟨#[32]⟩) (s := ⟨#[]⟩) P1.out)
      have q1 := congrArg (fun b : ByteArray => (b.size : Int)) J.out
      simp only [ByteArray.size_append, Int.natCast_add] at q1
      generalize joined ⟨#[32]⟩ (x0.take k) ⟨#[]⟩ = jk at *
      have hs1 : jk.size + p.size ≤ 9223372036854775807 := by omega
      have hs2 : jk.size + p.size + 1 ≤ 9223372036854775807 := by omega
      clear q q' q1
      go_wp2
      go_roundw
      case rel => exact ⟨k + 1, by omega, by go_num, by rw [J.out], hw, hcell⟩
      case measure => simp [intOf]; omega
    · obtain rfl : k = n := by omega
      rw [take_full X0]
      generalize hj0 : joined ⟨#[32]⟩ x0 ⟨#[]⟩ = j0 at *
      have J0 := Lib.hid hj0; clear hj0
      go_wp2_with fail
      go_loopw [5, 25] (fun o i wr => ∃ k : Nat, k ≤ m ∧ i = .int .i64 k ∧ o = .string (joined ⟨#[32, 105, 110, 32]⟩ (x1.take k) j0) ∧ Below w.heap.size w wr) (fun _ i _ => m - (intOf i).toNat)
      case atStart => exact ⟨0, by omega, rfl, rfl, hw⟩
      case round =>
        clear hw hcell
        obtain ⟨k, hk, rfl, rfl, hw⟩ := hrel
        by_cases hlt : k < m
        · obtain ⟨b1, o1, p, s1, _, rfl, P1, ⟨rfl, hp⟩, r1⟩ := (h1.below StrR.good hw).get X1 hlt
          have R1 : wr.cell? ⟨b1, o1 + k, none⟩ = some (.string p) := by simpa using r1 0 _ rfl
          clear r1 hp
          have q := T1.out k
          have q' := T1.out (k + 1)
          have J := Lib.hid (joined_take (sep := ⟨#[32, 105, 110, 32]⟩) (s := j0) P1.out)
          have q1 := congrArg (fun b : ByteArray => (b.size : Int)) J.out
          simp only [ByteArray.size_append, Int.natCast_add] at q1
          generalize joined ⟨#[32, 105, 110, 32]⟩ (x1.take k) j0 = jk at *
          have hs1 : jk.size + p.size ≤ 9223372036854775807 := by omega
          have hs2 : jk.size + p.size + 4 ≤ 9223372036854775807 := by omega
          clear q q' q1
          go_wp2
          go_roundw
          case rel => exact ⟨k + 1, by omega, by go_num, by rw [J.out], hw⟩
          case measure => simp [intOf]; omega
        · obtain rfl : k = m := by omega
          rw [take_full X1]
          have q := T1.out x1.length
          rw [List.take_length] at q
          generalize hj1 : joined ⟨#[32, 105, 110, 32]⟩ x1 j0 = j1 at *
          have J1 := Lib.hid hj1; clear hj1
          have hs1 : j1.size + e.size ≤ 9223372036854775807 := by omega
          go_wp2
          go_returns
          exact ⟨by rw [← J1.out, ← J0.out]; rfl, hw⟩

set_option maxHeartbeats 2000000 in
theorem law (x : GTalk) (r : List Value) (e : ByteArray) (he : e.size ≤ 9223372036854775807) (w : World) (hx : GTalk.R 0 w r x) :
    Calls Try.prog 4 #[.agg r.toArray, .string e] w fun en w' => en = .returned (.bool true) ∧ Below w.heap.size w w' := by
  obtain ⟨x0, x1⟩ := x
  have Hx := hx
  obtain ⟨u0, u1, rfl, -, a0, a1⟩ := hx
  obtain ⟨p0, c0, rfl⟩ := a0.form
  obtain ⟨p1, c1, rfl⟩ := a1.form
  by_cases hlong : (1048576 : Int) < e.size
  · go_enter Try.func4, Try.ntmps4
    go_wp2
    go_returns
    exact ⟨rfl, by go_grown⟩
  · go_enter Try.func4, Try.ntmps4
    go_wp2_with fail
    refine (szTalk_c _ _ _ _ (by omega) (by omega) _ (GTalk.good.below Hx (by go_grown))).mono ?_
    rintro en w1 ⟨n1, rfl, (⟨g1, rfl⟩ | ⟨g1, rfl⟩), hb⟩
    · have hw : Below w.heap.size w w1 := Below.trans (by go_grown) (hb.mono (by go_grown))
      obtain ⟨hc, hf⟩ := bcell hb; have hz1 := hb.size; have hs0 : w.heap.size < w1.heap.size := (by have h := hz1; (try simp only [World.size_alloc, World.size_setCell, World.size_drew] at h); omega)
      clear hb hz1
      have B0 : w1.cell? ⟨w.heap.size, 0, none⟩ = some (.slice p0 x0.length c0) := by rw [hc _ _ (by simp)]; simp [go_sem]
      have B1 : w1.cell? ⟨w.heap.size, 1, none⟩ = some (.slice p1 x1.length c1) := by rw [hc _ _ (by simp)]; simp [go_sem]
      clear hc hf
      go_wp2_with fail
      refine (toTalk_c _ _ _ g1 _ (GTalk.good.below Hx hw)).mono ?_
      rintro en w2 ⟨r2, rfl, q2, hb⟩
      have hw2 := hw.trans (hb.mono hw.size)
      have B0 := cell_below hb B0
      have B1 := cell_below hb B1
      clear hb
      go_wp2_with fail
      refine (spec_TalkText_c _ _ _ _ (by omega) g1 _ q2).mono ?_
      rintro en w3 ⟨rfl, hb⟩
      have hw3 := hw2.trans (hb.mono hw2.size)
      have B0 := cell_below hb B0
      have B1 := cell_below hb B1
      clear hb q2
      go_wp2_with fail
      refine (toTalk_c _ _ _ g1 _ (GTalk.good.below Hx hw3)).mono ?_
      rintro en w4 ⟨r4, rfl, q4, hb⟩
      have hw4 := hw3.trans (hb.mono hw3.size)
      have B0 := cell_below hb B0
      have B1 := cell_below hb B1
      clear hb
      have Q4 := q4
      obtain ⟨v0, v1, rfl, -, k0, k1⟩ := q4
      obtain ⟨d0, e0, rfl⟩ := k0.form
      obtain ⟨d1, e1, rfl⟩ := k1.form
      clear k0 k1
      go_wp2_with fail
      refine (impl_TalkText_c _ _ _ _ (by omega) g1 _ (GTalk.good.below Q4 (by go_grown))).mono ?_
      rintro en w5 ⟨rfl, hb⟩
      have hz4 := hw4.size
      have hb45 : Below w4.heap.size w4 w5 := Below.trans (by go_grown) (hb.mono (by go_grown))
      have hw5 : Below w.heap.size w w5 := hw4.trans (hb45.mono hz4)
      obtain ⟨hc, hf⟩ := bcell hb
      have hz5 := hb.size
      have B0 := cell_below hb45 B0
      have B1 := cell_below hb45 B1
      have C0 : w5.cell? ⟨w4.heap.size, 0, none⟩ = some (.slice d0 x0.length e0) := by rw [hc _ _ (by simp)]; simp [go_sem]
      have C1 : w5.cell? ⟨w4.heap.size, 1, none⟩ = some (.slice d1 x1.length e1) := by rw [hc _ _ (by simp)]; simp [go_sem]
      have Q5 := GTalk.good.below Q4 hb45
      clear hc hf hb Q4 hb45 hz5
      go_wp2_with fail
      generalize w4.heap.size = g4 at *
      generalize hB : w.heap.size = B at *
      go_region_held3 (fun w' => w'.cell? ⟨B, 0, none⟩ = some (.slice p0 x0.length c0) ∧ w'.cell? ⟨B, 1, none⟩ = some (.slice p1 x1.length c1) ∧ w'.cell? ⟨g4, 0, none⟩ = some (.slice d0 x0.length e0) ∧ w'.cell? ⟨g4, 1, none⟩ = some (.slice d1 x1.length e1))
        (first | go_keep | (refine ⟨cell_below hbk ?_, cell_below hbk ?_, cell_below hbk ?_, cell_below hbk ?_⟩ <;> go_keep))
        (first
          | (go_at_call 16; refine (toTalk_c _ _ _ g1 _ (GTalk.good.below Hx (by rw [hB]; go_grown))).mono ?_; rintro en w6 ⟨r6, rfl, q6, hbk⟩; have hw6 : Below B w w6 := Below.trans (by go_grown) (hbk.mono (by have := hw5.size; simp; omega)); have Q6 := GTalk.good.below Q5 (Below.trans (by go_grown) hbk))
          | (go_at_call 18; refine (eqTalk_c _ _ _ _ _ _ _ Q6 q6).mono ?_; rintro en w7 ⟨rfl, hbk⟩; have hw7 : Below B w w7 := hw6.trans (hbk.mono (by have := hw6.size; omega))))
      go_wp2
      go_returns
      exact ⟨rfl, by rw [hB]; exact hw7⟩
    · have hw : Below w.heap.size w w1 := Below.trans (by go_grown) (hb.mono (by go_grown))
      go_wp2
      go_returns
      exact ⟨rfl, hw⟩
end Go.Proofs.Ytakpmnagdpiceaa
