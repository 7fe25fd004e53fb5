/- Parts of the proof, merged: FoCode. -/
import Derived.Test.YtfobkbjabenkkaaGreatPe8
/- Code that the call owns: what it leads to, marks. -/
namespace Go.Proofs.YtfobkbjabenkkaaGreat
open Go.RowKit
set_option linter.unusedVariables false
set_option linter.unusedSimpArgs false
attribute [local go_sem] Ext.cell

def GCode.O : FootR GCode := fun bs w r x => ∃ (u0 : Value) (p0 : List Nat) (u1 : Value) (p1 : List Nat), r = [u0, u1] ∧ bs = p0 ++ p1 ∧ x.wf ∧ SlO 57 4 GIns.O p0 w u0 x.ins ∧ SlO 55 1 GPat.O p1 w u1 x.pats
theorem GCode.ok : FootOk GCode.O GCode.R where
  loc := fun ⟨u0, p0, u1, p1, hr, hb, hwf, s0, s1⟩ hs => ⟨u0, p0, u1, p1, hr, hb, hwf, s0.loc GIns.ok (fun b h => hs b (by rw [hb]; simp [h])), s1.loc GPat.ok (fun b h => hs b (by rw [hb]; simp [h]))⟩
  lt := fun ⟨u0, p0, u1, p1, hr, hb, hwf, s0, s1⟩ b h => by
    rw [hb] at h
    rcases List.mem_append.1 h with h | h
    · exact s0.lt GIns.ok b h
    · exact s1.lt GPat.ok b h
  read := fun ⟨u0, p0, u1, p1, hr, hb, hwf, s0, s1⟩ hlo => ⟨u0, u1, hr, hwf, s0.sl GIns.ok (fun b h => hlo b (by rw [hb]; simp [h])), s1.sl GPat.ok (fun b h => hlo b (by rw [hb]; simp [h]))⟩
def cntCode (x : GCode) : Nat := cntL cntIns x.ins + cntL cntPat x.pats
def mkCode (k : Nat) (x : GCode) : GCode := ⟨markL mkIns cntIns k x.ins, markL mkPat cntPat (k + cntL cntIns x.ins) x.pats⟩
def LenOkCode (x : GCode) : Prop := LenOkIns x.ins ∧ LenOkPat x.pats

set_option maxRecDepth 100000 in
set_option maxHeartbeats 4000000 in
theorem markCode_c (r : List Value) (bs : List Nat) (k lo : Nat) (z : Int) (hz : z = (k : Int)) (x : GCode) (w : World) (S : GCode.O bs w r x) (hnd : bs.Nodup) (hlo : ∀ b ∈ bs, lo ≤ b) (hlw : lo ≤ w.heap.size) (hkn : k + cntCode x ≤ 4611686018427387904) (hlN : LenOkCode x) :
    Calls Tryz.prog 9 #[.agg r.toArray, .int .i64 z] w fun e w' => e = .returned (.int .i64 ((k + cntCode x : Nat) : Int)) ∧ GCode.O bs w' r (mkCode k x) ∧ Kept (· ∈ bs) w w' ∧ Below lo w w' := by
  subst hz
  obtain ⟨u0, p0, u1, p1, rfl, rfl, hwf, s0, s1⟩ := S
  obtain ⟨a0, c0, rfl⟩ := s0.form
  obtain ⟨a1, c1, rfl⟩ := s1.form
  obtain ⟨is, qs⟩ := x
  obtain ⟨hn0, hn1, hd⟩ := List.nodup_append.1 hnd
  obtain ⟨hl0, hl1⟩ := hlN
  unfold cntCode at hkn ⊢
  dsimp only at *
  have hlt0 := s0.lt GIns.ok
  have hlt1 := s1.lt GPat.ok
  generalize hni : is.length = ni at *
  generalize hnq : qs.length = nq at *
  obtain ⟨k1, hk1⟩ : ∃ y, y = k + cntL cntIns is := ⟨_, rfl⟩
  have hkk : k + (cntL cntIns is + cntL cntPat qs) = k1 + cntL cntPat qs := by omega
  rw [hkk] at hkn ⊢
  replace s0 := Lib.hid s0; replace s1 := Lib.hid s1; replace hn0 := Lib.hid hn0; replace hn1 := Lib.hid hn1; replace hd := Lib.hid hd; replace hl0 := Lib.hid hl0; replace hl1 := Lib.hid hl1; replace hlt0 := Lib.hid hlt0; replace hlt1 := Lib.hid hlt1; replace hlo := Lib.hid hlo; replace hni := Lib.hid hni; replace hnq := Lib.hid hnq; replace hk1 := Lib.hid hk1; replace hnd := Lib.hid hnd
  show Calls Tryz.prog 9 #[.agg #[.slice a0 ni c0, .slice a1 nq c1], .int .i64 k] w _
  go_enter Tryz.func9, Tryz.ntmps9
  go_upto_region 1 with fail
  obtain ⟨w1, hW1⟩ : ∃ W, W = w.alloc (.cells #[.slice a0 ni c0, .slice a1 nq c1] 30) := ⟨_, rfl⟩
  rw [← hW1]
  have hb1 : Below w.heap.size w w1 := by rw [hW1]; go_grown
  have C : RowAt w1 w.heap.size 0 [.slice a0 ni c0, .slice a1 nq c1] := by rw [hW1]; exact RowAt.box w #[_, _] _
  clear hW1
  have hz1 := hb1.size
  obtain ⟨e0, e1⟩ := C.box2
  have hsC := World.block_lt_of_cell? _ _ e0; dsimp only at hsC
  have t0 := s0.out.below GIns.ok hb1
  have t1 := s1.out.below GPat.ok hb1
  replace t0 := Lib.hid t0; replace t1 := Lib.hid t1
  go_wp2_with fail
  refine (markInsS_c _ p0 k lo _ rfl is w1 t0.out hn0.out (fun b hb => hlo.out b (by simp [hb])) (by omega) (by have := hk1.out; omega) hl0.out).mono ?_
  rintro e w2 ⟨rfl, q0, hK2, hb2⟩
  have hz2 := hb2.size
  have e1' : w2.cell? ⟨w.heap.size, 1, none⟩ = some (.slice a1 nq c1) := by
    rw [World.cell?_of_block (w := w1) (a := ⟨w.heap.size, 1, none⟩) (hK2 w.heap.size hsC (fun h => Nat.lt_irrefl _ (hlt0.out _ h)))]; exact e1
  have t1' := t1.out.kept GPat.ok hK2 (fun b h1 h0 => hd.out b h0 b h1 rfl)
  have hsC2 := World.block_lt_of_cell? _ _ e1'; dsimp only at hsC2
  rw [← hk1.out]
  replace q0 := Lib.hid q0; replace t1' := Lib.hid t1'; replace hK2 := Lib.hid hK2
  clear e0 e1 C
  go_wp2_with fail
  refine (markPatS_c _ p1 k1 lo _ rfl qs w2 t1'.out hn1.out (fun b hb => hlo.out b (by simp [hb])) (by omega) (by omega) hl1.out).mono ?_
  rintro e w3 ⟨rfl, q1, hK3, hb3⟩
  have q0' := q0.out.kept GIns.ok hK3 (fun b h0 h1 => hd.out b h0 b h1 rfl)
  have KF : Kept (· ∈ p0 ++ p1) w w3 := fun b h1 h2 => by
    rw [hK3 b (by omega) (fun h => h2 (by simp [h])), hK2.out b (by omega) (fun h => h2 (by simp [h])), hb1.block b h1]
  have BF : Below lo w w3 := ((hb1.mono hlw).trans hb2).trans hb3
  replace q0' := Lib.hid q0'; replace q1 := Lib.hid q1; replace KF := Lib.hid KF; replace BF := Lib.hid BF
  clear hb2 hb3 hK3 e1'
  go_wp2_with fail
  go_returns
  exact ⟨rfl, ⟨_, p0, _, p1, rfl, rfl, trivial, q0'.out, by show SlO _ _ _ _ _ _ (markL mkPat cntPat (k + cntL cntIns is) qs); rw [← hk1.out]; exact q1.out⟩, KF.out, BF.out⟩

set_option maxRecDepth 100000 in
set_option maxHeartbeats 4000000 in
theorem heldCode_c (r : List Value) (k lo : Nat) (z : Int) (hz : z = (k : Int)) (x : GCode) (w : World) (S : GCode.R lo w r (mkCode k x)) (hkn : k + cntCode x ≤ 4611686018427387904) (hlN : LenOkCode x) :
    Calls Tryz.prog 10 #[.agg r.toArray, .int .i64 z] w fun e w' => e = .returned (.int .i64 ((k + cntCode x : Nat) : Int)) ∧ Below w.heap.size w w' := by
  subst hz
  obtain ⟨u0, u1, rfl, -, s0, s1⟩ := S
  obtain ⟨is, qs⟩ := x
  obtain ⟨hl0, hl1⟩ := hlN
  have s0' : Sl GIns.R 4 lo w u0 (markL mkIns cntIns k is) := s0
  have s1' : Sl GPat.R 1 lo w u1 (markL mkPat cntPat (k + cntL cntIns is) qs) := s1
  clear s0 s1
  obtain ⟨a0, c0, rfl⟩ := s0'.form
  obtain ⟨a1, c1, rfl⟩ := s1'.form
  rw [markL_length] at s0' s1' ⊢
  rw [markL_length]
  unfold cntCode at hkn ⊢
  dsimp only at *
  generalize hni : is.length = ni at *
  generalize hnq : qs.length = nq at *
  obtain ⟨k1, hk1⟩ : ∃ y, y = k + cntL cntIns is := ⟨_, rfl⟩
  have hkk : k + (cntL cntIns is + cntL cntPat qs) = k1 + cntL cntPat qs := by omega
  rw [hkk] at hkn ⊢
  rw [← hk1] at s1'
  have c1' := fun W (hW : Below w.heap.size w W) => heldInsS_c _ k lo _ rfl is W (s0'.below GIns.good hW) (by omega) hl0
  have c2' := fun W (hW : Below w.heap.size w W) => heldPatS_c _ k1 lo _ rfl qs W (s1'.below GPat.good hW) (by omega) hl1
  rw [← hk1] at c1'
  replace s0' := Lib.hid s0'; replace s1' := Lib.hid s1'; replace hni := Lib.hid hni; replace hnq := Lib.hid hnq; replace hk1 := Lib.hid hk1; replace c1' := Lib.hid c1'; replace c2' := Lib.hid c2'
  clear hl0 hl1
  show Calls Tryz.prog 10 #[.agg #[.slice a0 ni c0, .slice a1 nq c1], .int .i64 k] w _
  go_enter Tryz.func10, Tryz.ntmps10
  go_upto_region 1 with fail
  have C : RowAt (w.alloc (.cells #[.slice a0 ni c0, .slice a1 nq c1] 30)) (w.heap.size) 0 [.slice a0 ni c0, .slice a1 nq c1] := RowAt.box w #[.slice a0 ni c0, .slice a1 nq c1] 30
  have hw : Below w.heap.size w (w.alloc (.cells #[.slice a0 ni c0, .slice a1 nq c1] 30)) := by go_grown
  generalize (w.alloc (.cells #[.slice a0 ni c0, .slice a1 nq c1] 30)) = w0 at *
  obtain ⟨c_0, c_1⟩ := C.box2; have hsC := World.block_lt_of_cell? _ _ c_0; dsimp only at hsC
  go_wp2_with (first | (go_at_call 28; ((with_reducible refine (c1'.out _ hw).mono ?_); rintro e w1 ⟨rfl, hb⟩; have hw := hw.trans (hb.mono hw.size); have C := C.below hb; obtain ⟨c_0, c_1⟩ := C.box2; have hsC := World.block_lt_of_cell? _ _ c_0; dsimp only at hsC; clear hb)) | (go_at_call 29; ((with_reducible refine (c2'.out _ hw).mono ?_); rintro e w1 ⟨rfl, hb⟩; have hw := hw.trans (hb.mono hw.size); have C := C.below hb; obtain ⟨c_0, c_1⟩ := C.box2; have hsC := World.block_lt_of_cell? _ _ c_0; dsimp only at hsC; clear hb)))
  go_returns
  exact ⟨rfl, hw⟩

end Go.Proofs.YtfobkbjabenkkaaGreat
