/- Parts of the proof, merged: Mark, Grow, FoInt, FoPNode, FoPat, FoIns, FoCode, FtIns, FtInt. -/
import Derived.Laws.IdiomStrings
import Derived.OwnWalk
import Derived.Test.YtklfepnokidnaaaSc17
/- Marks: markText. -/
namespace Go.Proofs.Ytklfepnokidnaaa
open Go.RowKit
set_option linter.unusedVariables false
set_option linter.unusedSimpArgs false
attribute [local go_sem] Ext.cell

theorem conv_digit (w : World) (k : Nat) : (convert 67 9 (Value.slice (some ⟨w.heap.size, 0, none⟩) 1 1)).run Try.prog (w.alloc (.cells #[.int .u8 (48 + (k : Int) % 10)] 5)) = .ok (.string ⟨#[dig k]⟩) (w.alloc (.cells #[.int .u8 (48 + (k : Int) % 10)] 5)) := by
  refine run_convert_bytes_back (P := Try.prog) _ 67 9 5 ⟨w.heap.size, 0, none⟩ 1 [dig k] Try.underlying67 Try.underlying5 Try.underlying9 (fun j hj => ?_)
  obtain rfl : j = 0 := by simp at hj; exact hj
  have h : (dig k).toNat = 48 + k % 10 := by unfold dig; rw [UInt8.toNat_ofNat']; exact Nat.mod_eq_of_lt (by omega)
  simp [go_sem, Addr.add, h]

end Go.Proofs.Ytklfepnokidnaaa

/- Marks of rows. -/
namespace Go.Proofs.Ytklfepnokidnaaa
open Go.RowKit
set_option linter.unusedVariables false
set_option linter.unusedSimpArgs false

/-! ### Marks of rows -/
/-- Cell j of marked rows whose cells are of the kinds ks (0 a number, 1 a text, 2 a Bool), the first mark k. -/
def cmk (ks : List Nat) (k j : Nat) : Value := match ks.getD (j % ks.length) 0 with
  | 0 => .int .i64 ((k + j : Nat) : Int)
  | 1 => .string (markT (k + j))
  | _ => .bool ((k + j) % 3 == 0)
theorem cmk_at (ks : List Nat) (k j t m : Nat) (ht : t < ks.length) (hm : m = k + j * ks.length) : cmk ks k (j * ks.length + t) = (match ks.getD t 0 with
  | 0 => .int .i64 ((m + t : Nat) : Int)
  | 1 => .string (markT (m + t))
  | _ => .bool ((m + t) % 3 == 0)) := by
  unfold cmk
  rw [show (j * ks.length + t) % ks.length = t by rw [Nat.add_comm, Nat.add_mul_mod_self_right, Nat.mod_eq_of_lt ht], ← Nat.add_assoc, ← hm]
end Go.Proofs.Ytklfepnokidnaaa

/- Lists of numbers that the call owns: marks. -/
namespace Go.Proofs.Ytklfepnokidnaaa
open Go.RowKit
set_option linter.unusedVariables false
set_option linter.unusedSimpArgs false
attribute [local go_sem] Ext.cell

theorem digs_size (n : Nat) : ∀ s : ByteArray, (digs n s).size ≤ n + s.size := by
  induction n using Nat.strongRecOn with
  | _ n ih =>
    intro s
    by_cases h : n = 0
    · subst h; rw [digs_zero]; omega
    · rw [digs_pos h]
      have h1 := ih (n / 10) (by omega) (⟨#[dig n]⟩ ++ s)
      have h2 : ((⟨#[dig n]⟩ : ByteArray) ++ s).size = 1 + s.size := by rw [ByteArray.size_append]; rfl
      omega
theorem markT_ok {n : Nat} (h : n ≤ 4611686018427387904) : StrOk (markT n) := by
  unfold StrOk markT
  split
  · decide
  · have h1 := digs_size n ⟨#[]⟩
    have h2 : (⟨#[]⟩ : ByteArray).size = 0 := rfl
    rw [ByteArray.size_append]
    have h3 : (⟨#[109]⟩ : ByteArray).size = 1 := rfl
    omega
theorem cntL_get {α : Type} {cnt : α → Nat} {xs : List α} {j : Nat} {x : α} (h : xs[j]? = some x) : cnt x ≤ cntL cnt xs := by
  have h1 := cntL_take (cnt := cnt) h
  have h2 := cntL_le cnt xs (j + 1)
  omega

def cntInt (_ : Int) : Nat := 1
def mkInt (k : Nat) (_ : Int) : Int := (k : Int)
end Go.Proofs.Ytklfepnokidnaaa

/- Lists of PNode that the call owns: what they lead to, marks. Printed by gen_foot.py. -/
namespace Go.Proofs.Ytklfepnokidnaaa
open Go.RowKit
set_option linter.unusedVariables false
set_option linter.unusedSimpArgs false
attribute [local go_sem] Ext.cell

def GPNode.O : FootR GPNode := fun bs w r x => ∃ u0 : Value, r = [.int .i64 x.kind, .int .i64 x.n, .string x.s, u0] ∧ x.wf ∧ SlO 3 1 (FlatO intRow I64) bs w u0 x.kids
theorem GPNode.ok : FootOk GPNode.O GPNode.R where
  loc := fun ⟨u0, hr, hwf, s0⟩ hs => ⟨u0, hr, hwf, s0.loc (flatO_ok flatInt) hs⟩
  lt := fun ⟨u0, hr, hwf, s0⟩ => s0.lt (flatO_ok flatInt)
  read := fun ⟨u0, hr, hwf, s0⟩ hlo => ⟨u0, hr, hwf, s0.sl (flatO_ok flatInt) hlo⟩
def cntPNode (x : GPNode) : Nat := 3 + cntL cntInt x.kids
def mkPNode (k : Nat) (x : GPNode) : GPNode := ⟨(k : Int), ((k + 1 : Nat) : Int), markT (k + 2), markL mkInt cntInt (k + 3) x.kids⟩
def LenOkPNode (xs : List GPNode) : Prop := xs.length ≤ 4611686018427387904 ∧ ∀ x ∈ xs, x.kids.length ≤ 4611686018427387904

end Go.Proofs.Ytklfepnokidnaaa

/- Lists of Pat that the call owns: what they lead to, marks. Printed by gen_foot.py. -/
namespace Go.Proofs.Ytklfepnokidnaaa
open Go.RowKit
set_option linter.unusedVariables false
set_option linter.unusedSimpArgs false
attribute [local go_sem] Ext.cell

def GPat.O : FootR GPat := fun bs w r x => ∃ u0 : Value, r = [u0] ∧ x.wf ∧ SlO 77 4 GPNode.O bs w u0 x.nodes
theorem GPat.ok : FootOk GPat.O GPat.R where
  loc := fun ⟨u0, hr, hwf, s0⟩ hs => ⟨u0, hr, hwf, s0.loc GPNode.ok hs⟩
  lt := fun ⟨u0, hr, hwf, s0⟩ => s0.lt GPNode.ok
  read := fun ⟨u0, hr, hwf, s0⟩ hlo => ⟨u0, hr, hwf, s0.sl GPNode.ok hlo⟩
def cntPat (x : GPat) : Nat := cntL cntPNode x.nodes
def mkPat (k : Nat) (x : GPat) : GPat := ⟨markL mkPNode cntPNode k x.nodes⟩
def LenOkPat (xs : List GPat) : Prop := xs.length ≤ 4611686018427387904 ∧ ∀ x ∈ xs, LenOkPNode x.nodes

end Go.Proofs.Ytklfepnokidnaaa

/- Lists of Ins that the call owns: what they lead to, marks. Printed by gen_foot.py. -/
namespace Go.Proofs.Ytklfepnokidnaaa
open Go.RowKit
set_option linter.unusedVariables false
set_option linter.unusedSimpArgs false
attribute [local go_sem] Ext.cell

def insRow (x : GIns) : List Value := [.int .i64 x.op, .int .i64 x.a, .int .i64 x.b, .string x.s]
theorem flatIns : Flat GIns.R 4 insRow GIns.wf := ⟨fun h => h, fun h _ _ => ⟨rfl, h⟩, fun _ => rfl, fun _ u hu => by simp [insRow] at hu; rcases hu with rfl | rfl | rfl | rfl <;> rfl, by decide⟩
abbrev GIns.O : FootR GIns := FlatO insRow GIns.wf
theorem GIns.ok : FootOk GIns.O GIns.R := flatO_ok flatIns
def cntIns (x : GIns) : Nat := 4
def mkIns (k : Nat) (x : GIns) : GIns := ⟨(k : Int), ((k + 1 : Nat) : Int), ((k + 2 : Nat) : Int), markT (k + 3)⟩
def LenOkIns (xs : List GIns) : Prop := xs.length ≤ 4611686018427387904

end Go.Proofs.Ytklfepnokidnaaa

/- Code that the call owns: what it leads to, marks. -/
namespace Go.Proofs.Ytklfepnokidnaaa
open Go.RowKit
set_option linter.unusedVariables false
set_option linter.unusedSimpArgs false
attribute [local go_sem] Ext.cell

def GCode.O : FootR GCode := fun bs w r x => ∃ (u0 : Value) (p0 : List Nat) (u1 : Value) (p1 : List Nat), r = [u0, u1] ∧ bs = p0 ++ p1 ∧ x.wf ∧ SlO 56 4 GIns.O p0 w u0 x.ins ∧ SlO 41 1 GPat.O p1 w u1 x.pats
theorem GCode.ok : FootOk GCode.O GCode.R where
  loc := fun ⟨u0, p0, u1, p1, hr, hb, hwf, s0, s1⟩ hs => ⟨u0, p0, u1, p1, hr, hb, hwf, s0.loc GIns.ok (fun b h => hs b (by rw [hb]; simp [h])), s1.loc GPat.ok (fun b h => hs b (by rw [hb]; simp [h]))⟩
  lt := fun ⟨u0, p0, u1, p1, hr, hb, hwf, s0, s1⟩ b h => by
    rw [hb] at h
    rcases List.mem_append.1 h with h | h
    · exact s0.lt GIns.ok b h
    · exact s1.lt GPat.ok b h
  read := fun ⟨u0, p0, u1, p1, hr, hb, hwf, s0, s1⟩ hlo => ⟨u0, u1, hr, hwf, s0.sl GIns.ok (fun b h => hlo b (by rw [hb]; simp [h])), s1.sl GPat.ok (fun b h => hlo b (by rw [hb]; simp [h]))⟩
def cntCode (x : GCode) : Nat := cntL cntIns x.ins + cntL cntPat x.pats
def mkCode (k : Nat) (x : GCode) : GCode := ⟨markL mkIns cntIns k x.ins, markL mkPat cntPat (k + cntL cntIns x.ins) x.pats⟩
def LenOkCode (x : GCode) : Prop := LenOkIns x.ins ∧ LenOkPat x.pats

end Go.Proofs.Ytklfepnokidnaaa

/- What the laws' to functions make of Ins is the call's own: printed by gen_footto.py. -/
namespace Go.Proofs.Ytklfepnokidnaaa
open Go.RowKit
set_option linter.unusedVariables false
set_option linter.unusedSimpArgs false
attribute [local go_sem] Ext.cell

set_option maxRecDepth 100000 in
set_option maxHeartbeats 2000000 in
theorem toIns_o (x : GIns) (r : List Value) (lo : Nat) (hl : x.bulk ≤ 1048576) (w : World) (hx : GIns.R lo w r x) :
    Calls Try.prog 31 #[.agg r.toArray] w fun e w' => ∃ r' bs, e = .returned (.agg r'.toArray) ∧ GIns.O bs w' r' x ∧ bs.Nodup ∧ (∀ b ∈ bs, w.heap.size ≤ b) ∧ Below w.heap.size w w' := by
  obtain ⟨x0, x1, x2, x3⟩ := x
  obtain ⟨rfl, ⟨wx0, wx1, wx2, wx3⟩⟩ := hx
  dsimp only at *
  have z3 := size_nonneg x3
  simp only [GIns.bulk] at hl
  go_enter Try.func31, Try.ntmps31
  go_wp2
  refine bodyPost_ret (v := .agg #[.int .i64 x0, .int .i64 x1, .int .i64 x2, .string x3]) (by simp [results, Try.results31, go_sem, *]) rfl ?_
  refine ⟨[.int .i64 x0, .int .i64 x1, .int .i64 x2, .string x3], [], rfl, ⟨rfl, rfl, ⟨wx0, wx1, wx2, wx3⟩⟩, List.nodup_nil, fun b h => (by cases h), by go_grown⟩

set_option maxRecDepth 100000 in
set_option maxHeartbeats 2000000 in
theorem toInsS_o (x : List GIns) (u : Value) (lo : Nat) (hlen : bulkS GIns.bulk x ≤ 1048576) (w : World) (hx : Sl GIns.R 4 lo w u x) :
    Calls Try.prog 14 #[u] w fun e w' => ∃ v bs, e = .returned v ∧ SlO 56 4 GIns.O bs w' v x ∧ bs.Nodup ∧ (∀ b ∈ bs, w.heap.size ≤ b) ∧ Below w.heap.size w w' := by
  obtain ⟨a1, c1, rfl, l1, m1, hh⟩ := hx
  obtain ⟨n, hn⟩ : ∃ n, n = x.length := ⟨_, rfl⟩
  have hlen1 : x.length ≤ 1048576 := by have := length_le_bulkS (f := GIns.bulk) GIns.bulk_nonneg x; omega
  have hle : ∀ {k : Nat} {p : GIns}, x[k]? = some p → GIns.bulk p ≤ 1048576 := fun hp => by have := le_bulkS (f := GIns.bulk) GIns.bulk_nonneg hp; omega
  clear hlen
  rw [← hn] at l1 hlen1 ⊢
  have X1 := Lib.hid hn
  clear hn
  obtain ⟨i0, hi, hi0, hi1, hi2⟩ := info_parts info_InsS
  have I := Lib.hid hi; have I0 := Lib.hid hi0; have I1 := Lib.hid hi1; have I2 := Lib.hid hi2
  clear hi hi0 hi1 hi2
  go_enter Try.func14, Try.ntmps14
  go_wp2_with (at_make; refine wpList_make_full _ rfl _ _ _ rfl w.heap.size 56 i0 _ 4 Try.underlying28 I.out I0.out I1.out _ _ _ _ n rfl rfl rfl rfl (by rw [I2.out]; omega) (by unfold maxLen; omega) (Nat.le_refl _) ?_; intro w1 hO hgw)
  have hb1 : Below w.heap.size w w1 := (Below.refl w.heap.size w).grown (row := none) hgw (Nat.le_refl _) (by simp)
  have hs1 : w.heap.size < w1.heap.size := (own_base hO _ rfl).2
  have O1 : FillO 56 4 GIns.O w.heap.size w1 w.heap.size n 0 [] x := FillO.made hO x
  replace O1 := Lib.hid O1
  clear hO hgw
  go_loopw [4] (fun i wr => ∃ (k : Nat) (ps : List (List Nat)), k ≤ n ∧ i = .int .i64 k ∧ Below w.heap.size w wr ∧ w.heap.size + 1 ≤ wr.heap.size ∧ Hid (FillO 56 4 GIns.O w.heap.size wr w.heap.size n k ps x) ∧ Hid (ps.flatten.Nodup) ∧ Hid (∀ b ∈ ps.flatten, w.heap.size + 1 ≤ b ∧ b < wr.heap.size)) (fun i _ => n - (intOf i).toNat)
  case atStart => exact ⟨0, [], by omega, rfl, hb1, by omega, O1, List.nodup_nil, fun b h => by cases h⟩
  case round =>
    clear hs1 hb1 O1
    obtain ⟨k, ps, hk, rfl, hw, hz, hO, hN, hL⟩ := hrel
    by_cases hlt : k < n
    · obtain ⟨b1, o1, p, s1, _, rfl, P1, q1, r1⟩ := (hh.below GIns.good hw).get X1 hlt
      have Q1 := q1
      obtain ⟨rfl, _⟩ := q1
      have R1 : wr.cell? ⟨b1, o1 + k * 4, none⟩ = some (.int .i64 p.op) ∧ wr.cell? ⟨b1, o1 + k * 4 + 1, none⟩ = some (.int .i64 p.a) ∧ wr.cell? ⟨b1, o1 + k * 4 + 2, none⟩ = some (.int .i64 p.b) ∧ wr.cell? ⟨b1, o1 + k * 4 + 3, none⟩ = some (.string p.s) := ⟨by simpa using r1 0 _ rfl, by simpa using r1 1 _ rfl, by simpa using r1 2 _ rfl, by simpa using r1 3 _ rfl⟩
      clear r1
      go_wp2_with (go_at_call 31; refine (toIns_o p _ _ (hle P1.out) _ Q1).mono ?_; rintro e w2 ⟨r2, p2, rfl, q3, hnd2, hfr2, hb2⟩; have Q3 := Lib.hid q3; obtain ⟨hbs0, hr3, hwf0⟩ := q3; obtain rfl : r2 = [.int .i64 p.op, .int .i64 p.a, .int .i64 p.b, .string p.s] := hr3; have hA2 := ((hO.out.below GIns.ok hb2).arr (by omega)).2.2; have hO2 := Lib.hid (hO.out.below GIns.ok hb2); have hw2 := hw.trans (hb2.mono hw.size); have hz2 := hb2.size; have hl2 := GIns.ok.lt Q3.out; replace hl2 := Lib.hid hl2; replace hfr2 := Lib.hid hfr2; replace hnd2 := Lib.hid hnd2; clear hb2 hw hO R1; obtain ⟨d0, e0, f0⟩ := hA2 (k * 4) (by omega); obtain ⟨d1, e1, f1⟩ := hA2 (k * 4 + 1) (by omega); obtain ⟨d2, e2, f2⟩ := hA2 (k * 4 + 2) (by omega); obtain ⟨d3, e3, f3⟩ := hA2 (k * 4 + 3) (by omega))
      have hl2' : ∀ b ∈ (p2 : List Nat), b < w2.heap.size := hl2.out
      have hf2' : ∀ b ∈ (p2 : List Nat), wr.heap.size ≤ b := hfr2.out
      go_roundw
      case rel => exact ⟨k + 1, ps ++ [p2], by omega, by go_num, hw2.trans (below_storeRow w.heap.size [.int .i64 p.op, .int .i64 p.a, .int .i64 p.b, .string p.s] w2 (k * 4)), Nat.le_trans hz (Nat.le_trans hz2 (Nat.le_of_eq (size_storeRow w.heap.size [.int .i64 p.op, .int .i64 p.a, .int .i64 p.b, .string p.s] w2 (k * 4)).symm)),
        (hO2.out.step GIns.ok hlt (off := k * 4) (r := [.int .i64 p.op, .int .i64 p.a, .int .i64 p.b, .string p.s]) (by omega) P1.out rfl Q3.out (fun h => by have := hL.out _ h; omega) (fun h => by have := hf2' _ h; omega)),
        by show (ps ++ [p2]).flatten.Nodup; rw [List.flatten_append, List.flatten_singleton]; exact List.nodup_append.2 ⟨hN.out, hnd2.out, fun b h b2 h2 e => by subst e; have := hL.out _ h; have := hf2' _ h2; omega⟩,
        fun b h => by
          rw [List.flatten_append, List.flatten_singleton] at h
          rcases List.mem_append.1 h with h | h
          · have := hL.out _ h; exact ⟨this.1, Nat.lt_of_lt_of_le this.2 (Nat.le_trans hz2 (Nat.le_of_eq (size_storeRow w.heap.size [.int .i64 p.op, .int .i64 p.a, .int .i64 p.b, .string p.s] w2 (k * 4)).symm))⟩
          · have h1 := hf2' _ h; have h2 := hl2' _ h; exact ⟨by omega, Nat.lt_of_lt_of_le h2 (Nat.le_of_eq (size_storeRow w.heap.size [.int .i64 p.op, .int .i64 p.a, .int .i64 p.b, .string p.s] w2 (k * 4)).symm)⟩⟩
      case measure => simp [intOf]; omega
    · go_wp2
      go_returns
      obtain rfl : k = n := by omega
      exact ⟨_, _, rfl, (hO.out.full X1.out).slO, List.nodup_cons.2 ⟨fun h => by have := (hL.out _ h).1; dsimp only at this; omega, hN.out⟩, fun b h => by
        rcases List.mem_cons.1 h with h | h
        · dsimp only at h; omega
        · have := (hL.out _ h).1; omega, hw⟩

end Go.Proofs.Ytklfepnokidnaaa

/- What the laws' to functions make of Int is the call's own: printed by gen_footto.py. -/
namespace Go.Proofs.Ytklfepnokidnaaa
open Go.RowKit
set_option linter.unusedVariables false
set_option linter.unusedSimpArgs false
attribute [local go_sem] Ext.cell

set_option maxRecDepth 100000 in
set_option maxHeartbeats 2000000 in
theorem toIntS_o (x : List Int) (u : Value) (lo : Nat) (hlen : (x.length : Int) ≤ 1048576) (w : World) (hx : Sl IntR 1 lo w u x) :
    Calls Try.prog 85 #[u] w fun e w' => ∃ v bs, e = .returned v ∧ SlO 3 1 (FlatO intRow I64) bs w' v x ∧ bs.Nodup ∧ (∀ b ∈ bs, w.heap.size ≤ b) ∧ Below w.heap.size w w' := by
  obtain ⟨a1, c1, rfl, l1, m1, hh⟩ := hx
  obtain ⟨n, hn⟩ : ∃ n, n = x.length := ⟨_, rfl⟩
  have hlen1 : x.length ≤ 1048576 := by omega
  clear hlen
  rw [← hn] at l1 hlen1 ⊢
  have X1 := Lib.hid hn
  clear hn
  obtain ⟨i0, hi, hi0, hi1, hi2⟩ := info_parts info_IntS
  have I := Lib.hid hi; have I0 := Lib.hid hi0; have I1 := Lib.hid hi1; have I2 := Lib.hid hi2
  clear hi hi0 hi1 hi2
  go_enter Try.func85, Try.ntmps85
  go_wp2_with (at_make; refine wpList_make_full _ rfl _ _ _ rfl w.heap.size 3 i0 _ 1 Try.underlying70 I.out I0.out I1.out _ _ _ _ n rfl rfl rfl rfl (by rw [I2.out]; omega) (by unfold maxLen; omega) (Nat.le_refl _) ?_; intro w1 hO hgw)
  have hb1 : Below w.heap.size w w1 := (Below.refl w.heap.size w).grown (row := none) hgw (Nat.le_refl _) (by simp)
  have hs1 : w.heap.size < w1.heap.size := (own_base hO _ rfl).2
  have O1 : FillO 3 1 (FlatO intRow I64) w.heap.size w1 w.heap.size n 0 [] x := FillO.made hO x
  replace O1 := Lib.hid O1
  clear hO hgw
  go_loopw [4] (fun i wr => ∃ (k : Nat) (ps : List (List Nat)), k ≤ n ∧ i = .int .i64 k ∧ Below w.heap.size w wr ∧ w.heap.size + 1 ≤ wr.heap.size ∧ Hid (FillO 3 1 (FlatO intRow I64) w.heap.size wr w.heap.size n k ps x) ∧ Hid (ps.flatten.Nodup) ∧ Hid (∀ b ∈ ps.flatten, w.heap.size + 1 ≤ b ∧ b < wr.heap.size)) (fun i _ => n - (intOf i).toNat)
  case atStart => exact ⟨0, [], by omega, rfl, hb1, by omega, O1, List.nodup_nil, fun b h => by cases h⟩
  case round =>
    clear hs1 hb1 O1
    obtain ⟨k, ps, hk, rfl, hw, hz, hO, hN, hL⟩ := hrel
    by_cases hlt : k < n
    · obtain ⟨b1, o1, p, s1, _, rfl, P1, q1, r1⟩ := (hh.below IntR.good hw).get X1 hlt
      have Q1 := q1
      obtain ⟨rfl, hwf0⟩ := q1
      have R1 : wr.cell? ⟨b1, o1 + k, none⟩ = some (.int .i64 p) := (by simpa using r1 0 _ rfl)
      clear r1
      have hA2 := (hO.out.arr (by omega)).2.2; have hO2 := hO; have hw2 := hw; have hz2 : wr.heap.size ≤ wr.heap.size := Nat.le_refl _
      obtain ⟨d0, e0, f0⟩ := hA2 (k) (by omega)
      go_wp2
      have hl2' : ∀ b ∈ ([] : List Nat), b < wr.heap.size := (fun b h => by cases h)
      have hf2' : ∀ b ∈ ([] : List Nat), wr.heap.size ≤ b := (fun b h => by cases h)
      go_roundw
      case rel => exact ⟨k + 1, ps ++ [[]], by omega, by go_num, hw2.trans (below_storeRow w.heap.size [.int .i64 p] wr (k)), Nat.le_trans hz (Nat.le_trans hz2 (Nat.le_of_eq (size_storeRow w.heap.size [.int .i64 p] wr (k)).symm)),
        (hO2.out.step (flatO_ok flatInt) hlt (off := k) (r := [.int .i64 p]) (by omega) P1.out rfl ⟨rfl, rfl, hwf0⟩ (fun h => by have := hL.out _ h; omega) (fun h => by have := hf2' _ h; omega)),
        by show (ps ++ [[]]).flatten.Nodup; rw [List.flatten_append, List.flatten_singleton]; exact List.nodup_append.2 ⟨hN.out, List.nodup_nil, fun b h b2 h2 e => by subst e; have := hL.out _ h; have := hf2' _ h2; omega⟩,
        fun b h => by
          rw [List.flatten_append, List.flatten_singleton] at h
          rcases List.mem_append.1 h with h | h
          · have := hL.out _ h; exact ⟨this.1, Nat.lt_of_lt_of_le this.2 (Nat.le_trans hz2 (Nat.le_of_eq (size_storeRow w.heap.size [.int .i64 p] wr (k)).symm))⟩
          · have h1 := hf2' _ h; have h2 := hl2' _ h; exact ⟨by omega, Nat.lt_of_lt_of_le h2 (Nat.le_of_eq (size_storeRow w.heap.size [.int .i64 p] wr (k)).symm)⟩⟩
      case measure => simp [intOf]; omega
    · go_wp2
      go_returns
      obtain rfl : k = n := by omega
      exact ⟨_, _, rfl, (hO.out.full X1.out).slO, List.nodup_cons.2 ⟨fun h => by have := (hL.out _ h).1; dsimp only at this; omega, hN.out⟩, fun b h => by
        rcases List.mem_cons.1 h with h | h
        · dsimp only at h; omega
        · have := (hL.out _ h).1; omega, hw⟩

end Go.Proofs.Ytklfepnokidnaaa
