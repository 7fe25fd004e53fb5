/- DrawPoolSweep. -/
import Derived.Test.YtajbgkpjmgmdhaaDraw8
namespace Go.Proofs.Ytajbgkpjmgmdhaa
open Go.RowKit
set_option linter.unusedVariables false
set_option linter.unusedSimpArgs false
attribute [local go_sem] Ext.cell

theorem PAny.lower' {B lo lo' : Nat} {w : World} {v0 v1 : Value} {p : GPool} (h : PAny B lo w v0 v1 p) (hl : lo' ≤ lo) : PAny B lo' w v0 v1 p :=
  ⟨h.cells.mono hl, h.free.imp (fun h => h.lower hl) (fun ⟨h0, g, o, c, h1, h2, h3, h4⟩ => ⟨h0, g, o, c, h1, h2, by omega, h4⟩), h.f64, h.apart, h.len, h.small, h.many⟩
def DsPost (w : World) (e : Ending) (w' : World) : Prop :=
  ∃ (v0 v1 vr : Value) (p : GPool) (vs : List GVal) (B : Nat), e = .returned (.tuple #[.agg #[v0, v1], vr]) ∧ PAny B w.heap.size w' v0 v1 p ∧ Sl GVal.R 3 w.heap.size w' vr vs ∧ vs.length ≤ 101 ∧ (∀ v ∈ vs, SmallV v) ∧ Below w.heap.size w w'
set_option maxRecDepth 100000 in
set_option maxHeartbeats 16000000 in
theorem drawPoolSweep_c (w : World) (u : Value) (bs : List UInt8) (hu : Sl ByteR 1 0 w u bs) (hlen : bs.length ≤ 1048576) :
    Calls Try.prog 21 #[u] w (DsPost w) := by
  have Hu := hu
  obtain ⟨ua, uc, rfl⟩ := hu.form
  clear hu
  go_enter Try.func21, Try.ntmps21
  go_upto_region 1 with fail
  have E : RowAt (w.alloc (.cells #[.slice none 0 0, .slice none 0 0] 26)) (w.heap.size) 0 [.slice none 0 0, .slice none 0 0] := RowAt.box w #[.slice none 0 0, .slice none 0 0] 26
  have EW : Wr (w.alloc (.cells #[.slice none 0 0, .slice none 0 0] 26)) (w.heap.size) 0 2 := Wr.box w #[.slice none 0 0, .slice none 0 0] 26
  have hw : Below w.heap.size w (w.alloc (.cells #[.slice none 0 0, .slice none 0 0] 26)) := by go_grown
  generalize (w.alloc (.cells #[.slice none 0 0, .slice none 0 0] 26)) = w0 at *
  have hs0 := hw.size
  have hsE := World.block_lt_of_cell? _ _ E.box2.1; dsimp only at hsE
  replace Hu := Lib.hid Hu
  go_upto_region 2 with (go_at_call 35; (with_reducible refine (l01New_c w w0 _ bs Hu.out hlen hw).mono ?_); rintro e w1 ⟨b, rfl, hb0, C1, hb1⟩)
  have hbl := C1.lt
  have hz1 := hb1.size
  go_upto_region 3 with (go_at_call 36; (with_reducible refine (l20Any_c w _ b C1).mono ?_); rintro e w2 ⟨v0, v1, vr, p, vs, B, B2, rfl, PA, TR, hvl, hvs, D2⟩; obtain ⟨xa, xc, rfl⟩ := PA.cells.form; obtain ⟨ya, yc, rfl⟩ := PA.free.form; obtain ⟨ra, rc, rfl⟩ := TR.form)
  have hz2 := D2.size
  have hpb := PA.blocks
  have htb := TR.block
  obtain ⟨w3, hW3⟩ : ∃ W, W = w2.alloc (.cells #[.slice xa p.cells.length xc, .slice ya p.free.length yc] 26) := ⟨_, rfl⟩
  rw [← hW3]
  have hb3 : Below w2.heap.size w2 w3 := by rw [hW3]; go_grown
  have RB : RowAt w3 w2.heap.size 0 [.slice xa p.cells.length xc, .slice ya p.free.length yc] := by rw [hW3]; exact RowAt.box w2 #[_, _] _
  have D3 := D2.below hb3
  have P3 := PA.below hb3
  have T3 := TR.below hb3
  have hbP3 : w2.heap.size < w3.heap.size := World.block_lt_of_cell? _ _ RB.box2.1
  have KE : Kept (· = b) w0 w3 := (Kept.below hb1).trans hb1.size D3.kept
  have E3 := E.kept KE (by omega); have EW3 := EW.kept KE (by omega)
  have hB3 : Below w.heap.size w w3 := D3.cur.below
  clear hW3 TR PA hb3 E EW D2 C1 hb1 KE
  generalize w2.heap.size = bP at *
  obtain ⟨e_0, e_1⟩ := E3.box2
  have ef_0 := EW3.frz 0 (by omega); have ef_1 := EW3.frz 1 (by omega)
  obtain ⟨r_0, r_1⟩ := RB.box2
  have n1 : bP ≠ w.heap.size := by omega
  replace P3 := Lib.hid P3; replace T3 := Lib.hid T3; replace hvs := Lib.hid hvs
  go_wp2_with fail
  all_goals
    obtain ⟨w8, hW8⟩ : ∃ W, W = (w3.setCell ⟨w.heap.size, 0, none⟩ (.slice xa p.cells.length xc)).setCell ⟨w.heap.size, 1, none⟩ (.slice ya p.free.length yc) := ⟨_, rfl⟩
    rw [← hW8]
    have K8 : Kept (· = w.heap.size) w3 w8 := by rw [hW8]; exact Kept.set (S := (· = w.heap.size)) (p := ⟨w.heap.size, 1, none⟩) (Kept.set (S := (· = w.heap.size)) (p := ⟨w.heap.size, 0, none⟩) (Kept.refl _ _) rfl _) rfl _
    have E8 : RowAt w8 w.heap.size 0 [.slice xa p.cells.length xc, .slice ya p.free.length yc] := by rw [hW8]; exact (E3.putAt (j := 0) (by simp) _).putAt (j := 1) (by simp) _
    have P8 := P3.out.kept K8 (by rw [hW8]; simp [World.setCell]) (fun g hg e => by have := hpb g (.inl hg); omega) (fun g hg e => by have := hpb g (.inr hg); omega)
    have T8 := T3.out.kept K8 (fun g hg e => by have := htb g hg; omega)
    have hB8 : Below w.heap.size w w8 := by rw [hW8]; exact below_set2 hB3 (Nat.le_refl _) _ _
    clear hW8 e_0 e_1
    obtain ⟨e_0, e_1⟩ := E8.box2
    refine bodyPost_ret (v := .tuple #[.agg #[.slice xa p.cells.length xc, .slice ya p.free.length yc], .slice ra vs.length rc]) (by simp [results, Try.results21, go_sem, e_0, e_1]) rfl ?_
    exact ⟨_, _, _, p, vs, B, rfl, P8.lower' (show w.heap.size ≤ w1.heap.size by omega), (T8.sl flatVal (fun x hx => (hvs.out x hx).1)).mono GVal.good (show w.heap.size ≤ w1.heap.size by omega), hvl, hvs.out, hB8⟩
end Go.Proofs.Ytajbgkpjmgmdhaa
