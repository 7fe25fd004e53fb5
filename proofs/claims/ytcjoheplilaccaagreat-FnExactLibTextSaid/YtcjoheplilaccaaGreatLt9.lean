/- Parts of the proof, merged: Grow, FoInt, FoPNode, FoPat, FoIns, To, FtInt, FtPNode, FtPat, FtIns, Copy. -/
import Derived.Test.YtcjoheplilaccaaGreatRows
import Derived.OwnWalk
import Derived.Test.YtcjoheplilaccaaGreatLt8
/- Marks of rows. -/
namespace Go.Proofs.YtcjoheplilaccaaGreat
open Go.RowKit
set_option linter.unusedVariables false
set_option linter.unusedSimpArgs false

/-! ### Marks of rows -/
theorem markText_z (n : Nat) (z : Int) (hz : z = n) (hn : n ≤ 4611686018427387904) (w : World) :
    Calls Tryz.prog 24 #[.int .i64 z] w fun e w' => e = .returned (.string (markT n)) ∧ Below w.heap.size w w' := by subst hz; exact markText_c n hn w
/-- Cell j of marked rows whose cells are of the kinds ks (0 a number, 1 a text, 2 a Bool), the first mark k. -/
def cmk (ks : List Nat) (k j : Nat) : Value := match ks.getD (j % ks.length) 0 with
  | 0 => .int .i64 ((k + j : Nat) : Int)
  | 1 => .string (markT (k + j))
  | _ => .bool ((k + j) % 3 == 0)
theorem cmk_at (ks : List Nat) (k j t m : Nat) (ht : t < ks.length) (hm : m = k + j * ks.length) : cmk ks k (j * ks.length + t) = (match ks.getD t 0 with
  | 0 => .int .i64 ((m + t : Nat) : Int)
  | 1 => .string (markT (m + t))
  | _ => .bool ((m + t) % 3 == 0)) := by
  unfold cmk
  rw [show (j * ks.length + t) % ks.length = t by rw [Nat.add_comm, Nat.add_mul_mod_self_right, Nat.mod_eq_of_lt ht], ← Nat.add_assoc, ← hm]
end Go.Proofs.YtcjoheplilaccaaGreat

/- Lists of numbers that the call owns: marks. -/
namespace Go.Proofs.YtcjoheplilaccaaGreat
open Go.RowKit
set_option linter.unusedVariables false
set_option linter.unusedSimpArgs false
attribute [local go_sem] Ext.cell

theorem digs_size (n : Nat) : ∀ s : ByteArray, (digs n s).size ≤ n + s.size := by
  induction n using Nat.strongRecOn with
  | _ n ih =>
    intro s
    by_cases h : n = 0
    · subst h; rw [digs_zero]; omega
    · rw [digs_pos h]
      have h1 := ih (n / 10) (by omega) (⟨#[dig n]⟩ ++ s)
      have h2 : ((⟨#[dig n]⟩ : ByteArray) ++ s).size = 1 + s.size := by rw [ByteArray.size_append]; rfl
      omega
theorem markT_ok {n : Nat} (h : n ≤ 4611686018427387904) : StrOk (markT n) := by
  unfold StrOk markT
  split
  · decide
  · have h1 := digs_size n ⟨#[]⟩
    have h2 : (⟨#[]⟩ : ByteArray).size = 0 := rfl
    rw [ByteArray.size_append]
    have h3 : (⟨#[109]⟩ : ByteArray).size = 1 := rfl
    omega
theorem cntL_get {α : Type} {cnt : α → Nat} {xs : List α} {j : Nat} {x : α} (h : xs[j]? = some x) : cnt x ≤ cntL cnt xs := by
  have h1 := cntL_take (cnt := cnt) h
  have h2 := cntL_le cnt xs (j + 1)
  omega

def cntInt (_ : Int) : Nat := 1
def mkInt (k : Nat) (_ : Int) : Int := (k : Int)
end Go.Proofs.YtcjoheplilaccaaGreat

/- Lists of PNode that the call owns: what they lead to, marks. Printed by gen_foot.py. -/
namespace Go.Proofs.YtcjoheplilaccaaGreat
open Go.RowKit
set_option linter.unusedVariables false
set_option linter.unusedSimpArgs false
attribute [local go_sem] Ext.cell

def GPNode.O : FootR GPNode := fun bs w r x => ∃ u0 : Value, r = [.int .i64 x.kind, .int .i64 x.n, .string x.s, u0] ∧ x.wf ∧ SlO 3 1 (FlatO intRow I64) bs w u0 x.kids
theorem GPNode.ok : FootOk GPNode.O GPNode.R where
  loc := fun ⟨u0, hr, hwf, s0⟩ hs => ⟨u0, hr, hwf, s0.loc (flatO_ok flatInt) hs⟩
  lt := fun ⟨u0, hr, hwf, s0⟩ => s0.lt (flatO_ok flatInt)
  read := fun ⟨u0, hr, hwf, s0⟩ hlo => ⟨u0, hr, hwf, s0.sl (flatO_ok flatInt) hlo⟩
def cntPNode (x : GPNode) : Nat := 3 + cntL cntInt x.kids
def mkPNode (k : Nat) (x : GPNode) : GPNode := ⟨(k : Int), ((k + 1 : Nat) : Int), markT (k + 2), markL mkInt cntInt (k + 3) x.kids⟩
def LenOkPNode (xs : List GPNode) : Prop := xs.length ≤ 4611686018427387904 ∧ ∀ x ∈ xs, x.kids.length ≤ 4611686018427387904

end Go.Proofs.YtcjoheplilaccaaGreat

/- Lists of Pat that the call owns: what they lead to, marks. Printed by gen_foot.py. -/
namespace Go.Proofs.YtcjoheplilaccaaGreat
open Go.RowKit
set_option linter.unusedVariables false
set_option linter.unusedSimpArgs false
attribute [local go_sem] Ext.cell

def GPat.O : FootR GPat := fun bs w r x => ∃ u0 : Value, r = [u0] ∧ x.wf ∧ SlO 137 4 GPNode.O bs w u0 x.nodes
theorem GPat.ok : FootOk GPat.O GPat.R where
  loc := fun ⟨u0, hr, hwf, s0⟩ hs => ⟨u0, hr, hwf, s0.loc GPNode.ok hs⟩
  lt := fun ⟨u0, hr, hwf, s0⟩ => s0.lt GPNode.ok
  read := fun ⟨u0, hr, hwf, s0⟩ hlo => ⟨u0, hr, hwf, s0.sl GPNode.ok hlo⟩
def cntPat (x : GPat) : Nat := cntL cntPNode x.nodes
def mkPat (k : Nat) (x : GPat) : GPat := ⟨markL mkPNode cntPNode k x.nodes⟩
def LenOkPat (xs : List GPat) : Prop := xs.length ≤ 4611686018427387904 ∧ ∀ x ∈ xs, LenOkPNode x.nodes

end Go.Proofs.YtcjoheplilaccaaGreat

/- Lists of Ins that the call owns: what they lead to, marks. Printed by gen_foot.py. -/
namespace Go.Proofs.YtcjoheplilaccaaGreat
open Go.RowKit
set_option linter.unusedVariables false
set_option linter.unusedSimpArgs false
attribute [local go_sem] Ext.cell

def insRow (x : GIns) : List Value := [.int .i64 x.op, .int .i64 x.a, .int .i64 x.b, .string x.s]
theorem flatIns : Flat GIns.R 4 insRow GIns.wf := ⟨fun h => h, fun h _ _ => ⟨rfl, h⟩, fun _ => rfl, fun _ u hu => by simp [insRow] at hu; rcases hu with rfl | rfl | rfl | rfl <;> rfl, by decide⟩
abbrev GIns.O : FootR GIns := FlatO insRow GIns.wf
theorem GIns.ok : FootOk GIns.O GIns.R := flatO_ok flatIns
def cntIns (x : GIns) : Nat := 4
def mkIns (k : Nat) (x : GIns) : GIns := ⟨(k : Int), ((k + 1 : Nat) : Int), ((k + 2 : Nat) : Int), markT (k + 3)⟩
def LenOkIns (xs : List GIns) : Prop := xs.length ≤ 4611686018427387904

end Go.Proofs.YtcjoheplilaccaaGreat

/- The walks of the to functions: a copy in memory of its own. Printed by gen_helpers.py. -/
namespace Go.Proofs.YtcjoheplilaccaaGreat
open Go.RowKit
set_option linter.unusedVariables false
set_option linter.unusedSimpArgs false
attribute [local go_sem] Ext.cell


theorem info_StringS : (Tryz.prog.info? 9).map (fun i => (i.zero, i.size, i.bytes)) = some (some (.string ⟨#[]⟩), 1, 16) := by kernel_rfl

set_option maxHeartbeats 1000000 in
theorem toStringS_c (x : List ByteArray) (u : Value) (lo : Nat) (hlen : bulkS (fun s : ByteArray => (s.size : Int)) x ≤ 1048576) (w : World) (hx : Sl StrR 1 lo w u x) :
    Calls Tryz.prog 7 #[u] w fun e w' => ∃ v, e = .returned v ∧ Sl StrR 1 w.heap.size w' v x ∧ Below w.heap.size w w' := by
  obtain ⟨a1, c1, rfl, l1, m1, hh⟩ := hx
  obtain ⟨n, hn⟩ : ∃ n, n = x.length := ⟨_, rfl⟩
  have hlen1 : x.length ≤ 1048576 := by have := length_le_bulkS (f := (fun s : ByteArray => (s.size : Int))) size_nonneg x; omega
  clear hlen
  rw [← hn] at l1 hlen1 ⊢
  have X1 := Lib.hid hn
  clear hn
  obtain ⟨i0, hi, hi0, hi1, hi2⟩ := info_parts info_StringS
  have I := Lib.hid hi; have I0 := Lib.hid hi0; have I1 := Lib.hid hi1; have I2 := Lib.hid hi2
  clear hi hi0 hi1 hi2
  go_enter Tryz.func7, Tryz.ntmps7
  go_wp2_with (at_make; refine wpList_makeN rfl _ _ _ rfl 9 i0 _ 1 Tryz.underlying22 I.out I0.out I1.out rfl n rfl rfl (by rw [I2.out]; omega) (by omega) ?_; intro w1 hb1 hs1 hA1 _hr1)
  clear _hr1
  go_loopw [4] (fun i wr => ∃ k : Nat, k ≤ n ∧ i = .int .i64 k ∧ Below w.heap.size w wr ∧ w.heap.size + 1 ≤ wr.heap.size ∧ Arr wr w.heap.size (n * 1) ∧ Filled StrR 1 wr w.heap.size k x) (fun i _ => n - (intOf i).toNat)
  case atStart => exact ⟨0, by omega, rfl, hb1, by omega, hA1, Filled.zero⟩
  case round =>
    clear hs1 hb1 hA1
    obtain ⟨k, hk, rfl, hw, hz, hA, hF⟩ := hrel
    by_cases hlt : k < n
    · obtain ⟨b1, o1, p, s1, _, rfl, P1, q1, r1⟩ := (hh.below StrR.good hw).get X1 hlt
      ·
        have Q1 := q1
        obtain ⟨rfl, _⟩ := q1
        have R1 : wr.cell? ⟨b1, o1 + k, none⟩ = some (.string p) := (by simpa using r1 0 _ rfl)
        clear r1
        have hA2 := hA; have hF2 := hF; have hw2 := hw; have hz2 : wr.heap.size ≤ wr.heap.size := Nat.le_refl _
        obtain ⟨d0, e0, f0⟩ := hA2 (k) (by omega)
        have Q3 := StrR.good.mono Q1 (Nat.zero_le _) |> fun _ => (⟨rfl, Q1.2⟩ : StrR (w.heap.size + 1) wr [.string p] p)
        go_wp2
        have S := Filled.step StrR.good hF2 hA2 hlt (off := k) (by omega) P1.out Q3 rfl
        go_roundw
        case rel => exact ⟨k + 1, by omega, by go_num, hw2.trans (below_storeRow w.heap.size [.string p] wr (k)), Nat.le_trans hz (Nat.le_trans hz2 (Nat.le_of_eq (size_storeRow w.heap.size [.string p] wr (k)).symm)), S.2, S.1⟩
        case measure => simp [intOf]; omega
    · go_wp2
      go_returns
      obtain rfl : k = n := by omega
      obtain rfl := X1.out
      exact ⟨_, rfl, hF.sl StrR.good (Nat.le_refl _) (by omega), hw⟩


end Go.Proofs.YtcjoheplilaccaaGreat

/- What the laws' to functions make of Int is the call's own: printed by gen_footto.py. -/
namespace Go.Proofs.YtcjoheplilaccaaGreat
open Go.RowKit
set_option linter.unusedVariables false
set_option linter.unusedSimpArgs false
attribute [local go_sem] Ext.cell

end Go.Proofs.YtcjoheplilaccaaGreat

/- What the laws' to functions make of PNode is the call's own: printed by gen_footto.py. -/
namespace Go.Proofs.YtcjoheplilaccaaGreat
open Go.RowKit
set_option linter.unusedVariables false
set_option linter.unusedSimpArgs false
attribute [local go_sem] Ext.cell

end Go.Proofs.YtcjoheplilaccaaGreat

/- What the laws' to functions make of Pat is the call's own: printed by gen_footto.py. -/
namespace Go.Proofs.YtcjoheplilaccaaGreat
open Go.RowKit
set_option linter.unusedVariables false
set_option linter.unusedSimpArgs false
attribute [local go_sem] Ext.cell

end Go.Proofs.YtcjoheplilaccaaGreat

/- What the laws' to functions make of Ins is the call's own: printed by gen_footto.py. -/
namespace Go.Proofs.YtcjoheplilaccaaGreat
open Go.RowKit
set_option linter.unusedVariables false
set_option linter.unusedSimpArgs false
attribute [local go_sem] Ext.cell

end Go.Proofs.YtcjoheplilaccaaGreat

/- Copies of code: slices.Clone; a pattern's copy. -/
namespace Go.Proofs.YtcjoheplilaccaaGreat
open Go.RowKit
set_option linter.unusedVariables false
set_option linter.unusedSimpArgs false
attribute [local go_sem] Ext.cell

theorem info_IntQ : (Tryz.prog.info? 3).map (fun i => (i.zero, i.size, i.bytes)) = some (some (.int .i64 0), 1, 8) := by kernel_rfl
theorem info_PNodeQ : (Tryz.prog.info? 137).map (fun i => (i.zero, i.size, i.bytes)) = some (some (.agg #[.int .i64 0, .int .i64 0, .string ⟨#[]⟩, .slice none 0 0]), 4, 56) := by kernel_rfl
theorem info_PatQ : (Tryz.prog.info? 103).map (fun i => (i.zero, i.size, i.bytes)) = some (some (.agg #[.slice none 0 0]), 1, 24) := by kernel_rfl
theorem OwnF.slO {α : Type} {R : Reading α} {sz : Nat} {f : α → List Value} {wf : α → Prop} {e : TypeId} {lo : Nat} {w : World} {v : Value} {xs : List α} (F : Flat R sz f wf) (h : OwnF e sz f wf lo w v xs) :
    ∃ bs, SlO e sz (FlatO f wf) bs w v xs ∧ bs.Nodup ∧ ∀ b ∈ bs, lo ≤ b := by
  have hp : (xs.map fun _ => ([] : List Nat)).flatten = [] := by
    induction xs with
    | nil => rfl
    | cons x xs ih => simp
  have hG : GrowO e sz (FlatO f wf) lo w v (xs.map fun _ => []) xs := ⟨xs.map f, h.1, ⟨by simp, by simp, fun r hr => by obtain ⟨x, _, rfl⟩ := List.mem_map.1 hr; exact F.len x, fun i p r x h1 h2 h3 => by
    rw [List.getElem?_map, h3] at h1 h2
    simp at h1 h2
    exact ⟨by first | exact h1 | exact h1.symm, by first | exact h2 | exact h2.symm, h.2 x (List.mem_of_getElem? h3)⟩⟩⟩
  refine ⟨_, hG.slO, ?_, fun b hb => ?_⟩
  · unfold fpO
    rw [hp, List.append_nil]
    cases v.ownBlock with
    | none => exact List.nodup_nil
    | some g => simp
  · rw [mem_fpO, hp] at hb
    rcases hb with hb | hb
    · exact (own_base h.1 b hb).1
    · cases hb

theorem slice_none' {α : Type} {R : Reading α} {sz lo : Nat} {w : World} {xs : List α} (h : SlAt R sz lo w none xs) : xs = [] := by
  rcases Nat.eq_zero_or_pos xs.length with h0 | h0
  · exact List.length_eq_zero_iff.1 h0
  · obtain ⟨b, off, _, ha, _⟩ := h h0
    cases ha

theorem list_choice {α : Type} {P : Nat → α → Prop} : ∀ n : Nat, (∀ i, i < n → ∃ p, P i p) → ∃ ps : List α, ps.length = n ∧ ∀ i p, ps[i]? = some p → P i p
  | 0, _ => ⟨[], rfl, fun i p h => by simp at h⟩
  | n + 1, h => by
    obtain ⟨ps, h1, h2⟩ := list_choice n fun i hi => h i (by omega)
    obtain ⟨q, hq⟩ := h n (by omega)
    refine ⟨ps ++ [q], by simp [h1], fun i p hp => ?_⟩
    rcases Nat.lt_trichotomy i n with hi | hi | hi
    · rw [List.getElem?_append_left (by omega)] at hp; exact h2 i p hp
    · subst hi
      rw [List.getElem?_append_right (by omega), h1, Nat.sub_self] at hp
      simp at hp; subst hp; exact hq
    · rw [List.getElem?_eq_none (by simp [h1]; omega)] at hp; cases hp
/-- A node's cells as they lie. -/
def PRow : Type := GPNode × Option Addr × Nat
def prow (p : PRow) : List Value := [.int .i64 p.1.kind, .int .i64 p.1.n, .string p.1.s, .slice p.2.1 p.1.kids.length p.2.2]
def pwf (p : PRow) : Prop := p.1.wf
def PRowR : Reading PRow := fun _ _ r p => r = prow p ∧ pwf p
theorem flatP : Flat PRowR 4 prow pwf := ⟨fun h => h, fun h _ _ => ⟨rfl, h⟩, fun _ => rfl, fun _ u hu => by simp [prow] at hu; rcases hu with rfl | rfl | rfl | rfl <;> rfl, by decide⟩
theorem sl_rows {lo : Nat} {w : World} {v : Value} {xs : List GPNode} (h : Sl GPNode.R 4 lo w v xs) : ∃ ps : List PRow, ps.map (·.1) = xs ∧ Sl PRowR 4 lo w v ps ∧ ∀ p ∈ ps, Sl IntR 1 lo w (.slice p.2.1 p.1.kids.length p.2.2) p.1.kids := by
  obtain ⟨a, c, rfl, h1, h2, h3⟩ := h
  by_cases h0 : 0 < xs.length
  · obtain ⟨b, off, h4, rfl, h6⟩ := h3 h0
    have hx : ∀ (i : Nat) x, xs[i]? = some x → ∃ p : PRow, p.1 = x ∧ pwf p ∧ RowAt w b (off + i * 4) (prow p) ∧ Sl IntR 1 lo w (.slice p.2.1 p.1.kids.length p.2.2) p.1.kids := fun i x hx => by
      obtain ⟨r, ⟨u0, rfl, hwf, s0⟩, hr⟩ := h6 i x hx
      obtain ⟨ka, kc, rfl⟩ := s0.form
      exact ⟨(x, ka, kc), rfl, hwf, hr, s0⟩
    obtain ⟨ps, hl, hat⟩ := list_choice (P := fun i p => ∃ x, xs[i]? = some x ∧ p.1 = x ∧ pwf p ∧ RowAt w b (off + i * 4) (prow p) ∧ Sl IntR 1 lo w (.slice p.2.1 p.1.kids.length p.2.2) p.1.kids) xs.length (fun i hi => by
      obtain ⟨p, hp⟩ := hx i _ (List.getElem?_eq_getElem hi)
      exact ⟨p, _, List.getElem?_eq_getElem hi, hp⟩)
    refine ⟨ps, List.ext_getElem? fun i => ?_, ⟨_, c, by rw [hl], by rw [hl]; exact h1, h2, fun _ => ⟨b, off, h4, rfl, fun i p hp => ?_⟩⟩, fun p hp => ?_⟩
    · rw [List.getElem?_map]
      cases hp : ps[i]? with
      | none => rw [List.getElem?_eq_none (by rw [← hl]; exact List.getElem?_eq_none_iff.1 hp)]; rfl
      | some p => obtain ⟨x, h8, h9, _⟩ := hat i p hp; rw [h8, ← h9]; rfl
    · obtain ⟨x, h8, h9, h10, h11, _⟩ := hat i p hp
      exact ⟨prow p, ⟨rfl, h10⟩, h11⟩
    · obtain ⟨i, hi, rfl⟩ := List.getElem_of_mem hp
      obtain ⟨x, _, _, _, _, h12⟩ := hat i _ (List.getElem?_eq_getElem hi)
      exact h12
  · obtain rfl : xs = [] := List.length_eq_zero_iff.1 (by omega)
    exact ⟨[], rfl, ⟨a, c, rfl, Nat.zero_le _, h2, fun h => absurd h (by simp)⟩, fun p hp => by cases hp⟩

set_option maxRecDepth 100000 in
set_option maxHeartbeats 1000000 in
theorem cloneInt_o (xs : List Int) (u : Value) (lo : Nat) (hlen : xs.length ≤ 1048576) (w : World) (hu : Sl IntR 1 lo w u xs) :
    Calls Tryz.prog 104 #[u] w fun e w' => ∃ v, e = .returned v ∧ OwnF 3 1 intRow I64 w.heap.size w' v xs ∧ Below w.heap.size w w' := by
  have Hu := hu
  obtain ⟨a, c, rfl, l1, m1, hh⟩ := hu
  obtain ⟨i0, hi0, hz0, hz1, hz2⟩ := info_parts info_IntQ
  have qn : ∀ (w : World) (a : Option Addr) (n c n' c' : Nat), (binOp .eql 56 (.slice a n c) (.slice none n' c')).run Tryz.prog w = .ok (.bool a.isNone) w := fun w a n c n' c' => Lib.run_eql_slice_nil w _ _ a n c n' c' Tryz.underlying56
  have I := Lib.hid hi0; have I0 := Lib.hid hz0; have I1 := Lib.hid hz1; have I2 := Lib.hid hz2
  clear hi0 hz0 hz1 hz2
  cases a with
  | none =>
    obtain rfl : xs = [] := slice_none' hh
    clear Hu hh
    simp only [List.length_nil]
    go_enter Tryz.func104, Tryz.ntmps104
    go_wp2_with fail
    go_returns
    exact ⟨_, rfl, OwnF.empty, by go_grown⟩
  | some a =>
    have hO := own_new w #[] 3 1 0 rfl (by unfold maxLen; omega) w.heap.size (Nat.le_refl _)
    replace Hu := Lib.hid Hu
    generalize hn : xs.length = n at *
    replace hn := Lib.hid hn
    clear hh
    go_enter Tryz.func104, Tryz.ntmps104
    go_wp2_with (at_builtin; refine wpList_append_sl _ flatInt rfl _ _ _ rfl w.heap.size 3 i0 _ 8 Tryz.underlying56 I.out I0.out I1.out I2.out rfl w.heap.size 0 0 [] rfl hO lo _ xs rfl (Hu.out.below IntR.good (by go_grown)) (by rw [hn.out]; unfold maxLen; omega) (by rw [hn.out]; omega) (by simp) ?_; rw [hn.out]; intro g cap w2 hown hgrow hg)
    have hb2 : Below w.heap.size w w2 := below_grown (by go_grown) (by simp) hO hgrow
    go_returns
    refine ⟨_, rfl, ⟨?_, flatInt.wfs Hu.out⟩, hb2⟩
    rw [hn.out]
    simpa using hown

set_option maxRecDepth 100000 in
set_option maxHeartbeats 1000000 in
theorem clonePNode_o (xs : List PRow) (u : Value) (lo : Nat) (hlen : xs.length ≤ 1048576) (w : World) (hu : Sl PRowR 4 lo w u xs) :
    Calls Tryz.prog 103 #[u] w fun e w' => ∃ v, e = .returned v ∧ OwnF 137 4 prow pwf w.heap.size w' v xs ∧ Below w.heap.size w w' := by
  have Hu := hu
  have hgood : PRowR.Good := ⟨fun h _ => h, fun h _ => h⟩
  obtain ⟨a, c, rfl, l1, m1, hh⟩ := hu
  obtain ⟨i0, hi0, hz0, hz1, hz2⟩ := info_parts info_PNodeQ
  have qn : ∀ (w : World) (a : Option Addr) (n c n' c' : Nat), (binOp .eql 101 (.slice a n c) (.slice none n' c')).run Tryz.prog w = .ok (.bool a.isNone) w := fun w a n c n' c' => Lib.run_eql_slice_nil w _ _ a n c n' c' Tryz.underlying101
  have I := Lib.hid hi0; have I0 := Lib.hid hz0; have I1 := Lib.hid hz1; have I2 := Lib.hid hz2
  clear hi0 hz0 hz1 hz2
  cases a with
  | none =>
    obtain rfl : xs = [] := slice_none' hh
    clear Hu hh
    simp only [List.length_nil]
    go_enter Tryz.func103, Tryz.ntmps103
    go_wp2_with fail
    go_returns
    exact ⟨_, rfl, OwnF.empty, by go_grown⟩
  | some a =>
    have hO := own_new w #[] 137 4 0 rfl (by unfold maxLen; omega) w.heap.size (Nat.le_refl _)
    replace Hu := Lib.hid Hu
    generalize hn : xs.length = n at *
    replace hn := Lib.hid hn
    clear hh
    go_enter Tryz.func103, Tryz.ntmps103
    go_wp2_with (at_builtin; refine wpList_append_sl _ flatP rfl _ _ _ rfl w.heap.size 137 i0 _ 56 Tryz.underlying101 I.out I0.out I1.out I2.out rfl w.heap.size 0 0 [] rfl hO lo _ xs rfl (Hu.out.below hgood (by go_grown)) (by rw [hn.out]; unfold maxLen; omega) (by rw [hn.out]; omega) (by simp) ?_; rw [hn.out]; intro g cap w2 hown hgrow hg)
    have hb2 : Below w.heap.size w w2 := below_grown (by go_grown) (by simp) hO hgrow
    go_returns
    refine ⟨_, rfl, ⟨?_, flatP.wfs Hu.out⟩, hb2⟩
    rw [hn.out]
    simpa using hown

end Go.Proofs.YtcjoheplilaccaaGreat
