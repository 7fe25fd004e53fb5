/- Parts of the proof, merged: Mark, Grow, FoInt. -/
import Derived.Laws.IdiomStrings
import Derived.Test.YtnmmfcnkpcigoaaGreatDe7
/- Marks: markText. -/
namespace Go.Proofs.YtnmmfcnkpcigoaaGreat
open Go.RowKit
set_option linter.unusedVariables false
set_option linter.unusedSimpArgs false
attribute [local go_sem] Ext.cell

theorem conv_digit (w : World) (k : Nat) : (convert 138 9 (Value.slice (some ⟨w.heap.size, 0, none⟩) 1 1)).run Tryz.prog (w.alloc (.cells #[.int .u8 (48 + (k : Int) % 10)] 5)) = .ok (.string ⟨#[dig k]⟩) (w.alloc (.cells #[.int .u8 (48 + (k : Int) % 10)] 5)) := by
  refine run_convert_bytes_back (P := Tryz.prog) _ 138 9 5 ⟨w.heap.size, 0, none⟩ 1 [dig k] Tryz.underlying138 Tryz.underlying5 Tryz.underlying9 (fun j hj => ?_)
  obtain rfl : j = 0 := by simp at hj; exact hj
  have h : (dig k).toNat = 48 + k % 10 := by unfold dig; rw [UInt8.toNat_ofNat']; exact Nat.mod_eq_of_lt (by omega)
  simp [go_sem, Addr.add, h]

set_option maxHeartbeats 1000000 in
theorem markText_c (k0 : Nat) (hk0 : k0 ≤ 4611686018427387904) (w : World) :
    Calls Tryz.prog 59 #[.int .i64 k0] w fun e w' => e = .returned (.string (markT k0)) ∧ Below w.heap.size w w' := by
  by_cases h0 : k0 = 0
  · subst h0
    go_enter Tryz.func59, Tryz.ntmps59
    go_wp2
    go_returns
    exact ⟨rfl, by go_grown⟩
  · have h1 : 0 < k0 := by omega
    have h2 : ¬ ((k0 : Int) ≤ 0) := by omega
    go_enter Tryz.func59, Tryz.ntmps59
    go_wp2_with fail
    go_loopw [0, 3] (fun m o wr => ∃ (k : Nat) (s : ByteArray), m = .int .i64 k ∧ o = .string s ∧ Hid (digs k s = digs k0 ⟨#[]⟩) ∧ s.size + k ≤ k0 ∧ Below w.heap.size w wr) (fun m _ _ => (intOf m).toNat)
    case atStart => exact ⟨k0, ⟨#[]⟩, rfl, rfl, rfl, by show 0 + k0 ≤ k0; omega, by go_grown⟩
    case round =>
      obtain ⟨k, s, rfl, rfl, hd, hs, hw⟩ := hrel
      have hz := hw.size
      by_cases hlt : k = 0
      · replace hd : s = digs k0 ⟨#[]⟩ := by rw [Hid, hlt, digs_zero] at hd; exact hd
        replace hd := Lib.hid hd
        have h5 : (k : Int) = 0 := by omega
        rw [h5]
        clear h5
        clear hlt
        generalize hj : digs k0 ⟨#[]⟩ = dk at *
        replace hj := Lib.hid hj
        have h4 : 1 + s.size ≤ 9223372036854775807 := by omega
        go_wp2_with fail
        go_returns
        exact ⟨by have a := hj.out; have b := hd.out; subst b; subst a; simp [markT, h0], hw⟩
      · have h3 : 0 < k := by omega
        have h4 : s.size + 1 ≤ 9223372036854775807 := by omega
        have hrun := conv_digit wr k
        set_option maxRecDepth 10000 in go_wp2_with fail
        go_roundw
        case rel => exact ⟨k / 10, _, by go_num, rfl, by rw [Hid, ← hd, digs_pos hlt], by rw [ByteArray.size_append]; show 1 + s.size + k / 10 ≤ k0; omega, by go_grown⟩
        case measure => simp [intOf]; omega

end Go.Proofs.YtnmmfcnkpcigoaaGreat

/- Marks of rows. -/
namespace Go.Proofs.YtnmmfcnkpcigoaaGreat
open Go.RowKit
set_option linter.unusedVariables false
set_option linter.unusedSimpArgs false

/-! ### Marks of rows -/
theorem markText_z (n : Nat) (z : Int) (hz : z = n) (hn : n ≤ 4611686018427387904) (w : World) :
    Calls Tryz.prog 59 #[.int .i64 z] w fun e w' => e = .returned (.string (markT n)) ∧ Below w.heap.size w w' := by subst hz; exact markText_c n hn w
/-- Cell j of marked rows whose cells are of the kinds ks (0 a number, 1 a text, 2 a Bool), the first mark k. -/
def cmk (ks : List Nat) (k j : Nat) : Value := match ks.getD (j % ks.length) 0 with
  | 0 => .int .i64 ((k + j : Nat) : Int)
  | 1 => .string (markT (k + j))
  | _ => .bool ((k + j) % 3 == 0)
theorem cmk_at (ks : List Nat) (k j t m : Nat) (ht : t < ks.length) (hm : m = k + j * ks.length) : cmk ks k (j * ks.length + t) = (match ks.getD t 0 with
  | 0 => .int .i64 ((m + t : Nat) : Int)
  | 1 => .string (markT (m + t))
  | _ => .bool ((m + t) % 3 == 0)) := by
  unfold cmk
  rw [show (j * ks.length + t) % ks.length = t by rw [Nat.add_comm, Nat.add_mul_mod_self_right, Nat.mod_eq_of_lt ht], ← Nat.add_assoc, ← hm]
end Go.Proofs.YtnmmfcnkpcigoaaGreat

/- Lists of numbers that the call owns: marks. -/
namespace Go.Proofs.YtnmmfcnkpcigoaaGreat
open Go.RowKit
set_option linter.unusedVariables false
set_option linter.unusedSimpArgs false
attribute [local go_sem] Ext.cell

theorem digs_size (n : Nat) : ∀ s : ByteArray, (digs n s).size ≤ n + s.size := by
  induction n using Nat.strongRecOn with
  | _ n ih =>
    intro s
    by_cases h : n = 0
    · subst h; rw [digs_zero]; omega
    · rw [digs_pos h]
      have h1 := ih (n / 10) (by omega) (⟨#[dig n]⟩ ++ s)
      have h2 : ((⟨#[dig n]⟩ : ByteArray) ++ s).size = 1 + s.size := by rw [ByteArray.size_append]; rfl
      omega
theorem markT_ok {n : Nat} (h : n ≤ 4611686018427387904) : StrOk (markT n) := by
  unfold StrOk markT
  split
  · decide
  · have h1 := digs_size n ⟨#[]⟩
    have h2 : (⟨#[]⟩ : ByteArray).size = 0 := rfl
    rw [ByteArray.size_append]
    have h3 : (⟨#[109]⟩ : ByteArray).size = 1 := rfl
    omega
theorem cntL_get {α : Type} {cnt : α → Nat} {xs : List α} {j : Nat} {x : α} (h : xs[j]? = some x) : cnt x ≤ cntL cnt xs := by
  have h1 := cntL_take (cnt := cnt) h
  have h2 := cntL_le cnt xs (j + 1)
  omega

def cntInt (_ : Int) : Nat := 1
def mkInt (k : Nat) (_ : Int) : Int := (k : Int)
set_option maxRecDepth 100000 in
set_option maxHeartbeats 4000000 in
theorem markIntS_c (v : Value) (bs : List Nat) (k lo : Nat) (z : Int) (hz : z = (k : Int)) (xs : List Int) (w : World) (S : SlO 3 1 (FlatO intRow I64) bs w v xs) (hnd : bs.Nodup) (hlo : ∀ b ∈ bs, lo ≤ b) (hlw : lo ≤ w.heap.size) (hkn : k + cntL cntInt xs ≤ 4611686018427387904) (hln : xs.length ≤ 4611686018427387904) :
    Calls Tryz.prog 60 #[v, .int .i64 z] w fun e w' => e = .returned (.int .i64 ((k + cntL cntInt xs : Nat) : Int)) ∧ SlO 3 1 (FlatO intRow I64) bs w' v (markL mkInt cntInt k xs) ∧ Kept (· ∈ bs) w w' ∧ Below lo w w' := by
  subst hz
  obtain ⟨a, c, rfl⟩ := S.form
  obtain ⟨n, hn⟩ : ∃ n, n = xs.length := ⟨_, rfl⟩
  rw [← hn] at S hln ⊢
  replace hn := Lib.hid hn; replace S := Lib.hid S; replace hnd := Lib.hid hnd; replace hlo := Lib.hid hlo; replace hkn := Lib.hid hkn
  go_enter Tryz.func60, Tryz.ntmps60
  go_wp2_with fail
  go_loopw [1, 5] (fun kk i wr => ∃ m j : Nat, j ≤ n ∧ Hid (m = k + cntL cntInt (xs.take j)) ∧ kk = .int .i64 m ∧ i = .int .i64 j ∧ Hid (SlO 3 1 (FlatO intRow I64) bs wr (.slice a n c) (markN mkInt cntInt k xs j)) ∧ Below lo w wr ∧ Hid (Kept (· ∈ bs) w wr)) (fun _ i _ => n - (intOf i).toNat)
  case atStart => exact ⟨k, 0, by omega, by show _ = _; simp [cntL], rfl, rfl, by show SlO _ _ _ _ _ _ _; rw [markN_zero]; exact S.out, Below.refl _ _, Kept.refl _ _⟩
  case round =>
    clear S
    obtain ⟨m, j, hj, hm, rfl, rfl, S, hw0, hK0⟩ := hrel
    have hz0 := hw0.size
    by_cases hlt : j < n
    · obtain ⟨x, hx⟩ : ∃ x, xs[j]? = some x := ⟨_, List.getElem?_eq_getElem (by have := hn.out; omega)⟩
      have hks := cntL_take (cnt := cntInt) hx
      have hle := cntL_le cntInt xs (j + 1)
      have hmx : m + cntInt x ≤ 4611686018427387904 := by have := hkn.out; have := hm.out; omega
      have hS := S.out
      clear S
      rcases hS with ⟨he, _⟩ | ⟨ps, ⟨rows, hown, hrows⟩, hbs⟩
      · exfalso
        have := markN_length (mk := mkInt) (cnt := cntInt) k xs j
        rw [he] at this
        have := hn.out
        simp at *
        omega
      rw [markN_length, ← hn.out] at hown
      obtain ⟨g, cap, hv, -⟩ := own_cells hown (by omega)
      obtain ⟨rfl, rfl⟩ : a = some ⟨g, 0, none⟩ ∧ c = cap := by injection hv with e1 e2 e3; exact ⟨e1, e3⟩
      clear hv
      obtain ⟨p, r, hp, hr, hrl, ho⟩ := hrows.at (markN_get hx)
      have M0 := MidO.start hown hrows.wide (by rw [hrows.lr, markN_length, ← hn.out]) hr
      have hnd2 := hnd.out
      rw [hbs, fpO_slice, List.nodup_cons] at hnd2
      have hgp : g ∉ p := fun h => hnd2.1 (List.mem_flatten.2 ⟨p, List.mem_of_getElem? hp, h⟩)
      have hpb : ∀ b ∈ p, b ∈ bs := fun b hb => by rw [hbs, fpO_slice]; exact List.mem_cons_of_mem _ (List.mem_flatten.2 ⟨p, List.mem_of_getElem? hp, hb⟩)
      have hgb : g ∈ bs := by rw [hbs, fpO_slice]; exact List.mem_cons_self
      have hlog : lo ≤ g := hlo.out g hgb
      have hgw := M0.lt
      obtain ⟨rfl, rfl, hwf⟩ := ho
      unfold cntInt at hmx
      obtain ⟨e0, f0⟩ := M0.cell (off := j) (t := 0) (by omega) rfl
      clear hown
      replace hrows := Lib.hid hrows; replace hbs := Lib.hid hbs; replace hp := Lib.hid hp; replace hx := Lib.hid hx; replace hks := Lib.hid hks; replace hle := Lib.hid hle; replace M0 := Lib.hid M0; replace hr := Lib.hid hr; replace hrl := Lib.hid hrl; replace hwf := Lib.hid hwf; replace hnd2 := Lib.hid hnd2; replace hpb := Lib.hid hpb; replace hgp := Lib.hid hgp; replace hgb := Lib.hid hgb
      go_wp2_with fail
      have KG := (Kept.refl (fun b => b = g) wr).set (p := ⟨g, j, none⟩) rfl (.int .i64 (m : Int))
      have MF := M0.out.set (off := j) (t := 0) (by omega) (by omega) (.int .i64 (m : Int))
      have BF := hw0.setCell (p := ⟨g, j, none⟩) (by dsimp only; omega) (.int .i64 (m : Int))
      go_roundw
      case rel => exact ⟨m + 1, j + 1, by omega, by show _ = _; rw [hks.out, hm.out]; rfl, by go_num, by go_num, .inr ⟨ps, (GrowO.mark (flatO_ok flatInt) (k := k) rfl hrows.out hx.out hp.out (hbs.out ▸ hnd.out) (r := [.int .i64 (m : Int)]) rfl hn.out MF.own ⟨rfl, by rw [← hm.out]; rfl, by unfold mkInt I64; rw [← hm.out]; omega⟩ (kept_imp KG fun q h => .inl h)), hbs.out⟩, BF, hK0.out.trans hz0 (kept_imp KG fun q h => by subst h; exact hgb.out)⟩
      case measure => simp [intOf]; omega
    · obtain rfl : j = n := by omega
      have e1 := hn.out
      have h2 := S.out
      have h3 := hm.out
      rw [List.take_of_length_le (by omega)] at h3
      rw [e1, markN_all, ← e1] at h2
      replace h2 := Lib.hid h2; replace h3 := Lib.hid h3
      clear e1
      go_wp2
      go_returns
      exact ⟨by rw [← h3.out]; rfl, h2.out, hK0.out, hw0⟩

set_option maxRecDepth 100000 in
set_option maxHeartbeats 4000000 in
theorem heldIntS_c (v : Value) (k lo : Nat) (z : Int) (hz : z = (k : Int)) (xs : List Int) (w : World) (S : Sl IntR 1 lo w v (markL mkInt cntInt k xs)) (hkn : k + cntL cntInt xs ≤ 4611686018427387904) (hln : xs.length ≤ 4611686018427387904) :
    Calls Tryz.prog 64 #[v, .int .i64 z] w fun e w' => e = .returned (.int .i64 ((k + cntL cntInt xs : Nat) : Int)) ∧ Below w.heap.size w w' := by
  subst hz
  obtain ⟨a, c, rfl, l1, m1, hh⟩ := S
  obtain ⟨n, hn⟩ : ∃ n, n = xs.length := ⟨_, rfl⟩
  have X1 : Hid (n = (markL mkInt cntInt k xs).length) := by show _ = _; rw [markL_length]; exact hn
  rw [markL_length, ← hn] at l1 ⊢
  rw [← hn] at hln
  replace hn := Lib.hid hn; replace hkn := Lib.hid hkn; replace hh := Lib.hid hh
  go_enter Tryz.func64, Tryz.ntmps64
  go_wp2_with fail
  go_loopw [1, 5] (fun kk i wr => ∃ m j : Nat, j ≤ n ∧ Hid (m = k + cntL cntInt (xs.take j)) ∧ kk = .int .i64 m ∧ i = .int .i64 j ∧ Below w.heap.size w wr) (fun _ i _ => n - (intOf i).toNat)
  case atStart => exact ⟨k, 0, by omega, by show _ = _; simp [cntL], rfl, rfl, Below.refl _ _⟩
  case round =>
    obtain ⟨m, j, hj, hm, rfl, rfl, hw0⟩ := hrel
    have hz0 := hw0.size
    by_cases hlt : j < n
    · obtain ⟨x, hx⟩ : ∃ x, xs[j]? = some x := ⟨_, List.getElem?_eq_getElem (by have := hn.out; omega)⟩
      have hks := cntL_take (cnt := cntInt) hx
      have hle := cntL_le cntInt xs (j + 1)
      have hmx : m + cntInt x ≤ 4611686018427387904 := by have := hkn.out; have := hm.out; omega
      obtain ⟨b1, o1, y, s1, _, rfl, P1, q1, r1⟩ := (hh.out.below IntR.good hw0).get X1 hlt
      obtain rfl : mkInt m x = y := by
        have h := P1.out
        rw [markL_get hx, ← hm.out] at h
        exact Option.some.inj h
      obtain ⟨rfl, -⟩ := q1
      unfold cntInt at hmx
      have e0 : wr.cell? ⟨b1, o1 + j, none⟩ = some (.int .i64 (m : Int)) := by simpa [mkInt] using r1 0 _ rfl
      clear r1 P1
      replace hx := Lib.hid hx; replace hks := Lib.hid hks; replace hle := Lib.hid hle
      go_wp2_with fail
      go_roundw
      case rel => exact ⟨m + 1, j + 1, by omega, by show _ = _; rw [hks.out, hm.out]; rfl, by go_num, by go_num, hw0⟩
      case measure => simp [intOf]; omega
    · obtain rfl : j = n := by omega
      have h3 := hm.out
      rw [List.take_of_length_le (by have := hn.out; omega)] at h3
      replace h3 := Lib.hid h3
      go_wp2
      go_returns
      exact ⟨by rw [← h3.out]; rfl, hw0⟩

end Go.Proofs.YtnmmfcnkpcigoaaGreat
