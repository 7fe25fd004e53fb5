/- l11Draw: a drawn heap: printed by gen_draw3.py. -/
import Derived.Test.YtajbgkpjmgmdhaaDraw2
import Derived.Test.YtajbgkpjmgmdhaaPoolBox
namespace Go.Proofs.Ytajbgkpjmgmdhaa
open Go.RowKit
set_option linter.unusedVariables false
set_option linter.unusedSimpArgs false
attribute [local go_sem] Ext.cell

/-- A drawn cell: right, with short texts. -/
def SmallC (c : GCell) : Prop := c.wf ∧ c.s.size ≤ 5 ∧ c.a.s.size ≤ 5 ∧ c.b.s.size ≤ 5
theorem small_mk {k n : Int} {s : ByteArray} {a b : GVal} (hk : I64 k) (hn : I64 n) (hs : s.size ≤ 5) (ha : SmallV a) (hb : SmallV b) : SmallC ⟨k, n, s, a, b⟩ :=
  ⟨⟨hk, hn, by unfold StrOk; dsimp only; omega, ha.1.1, ha.1.2.1, ha.1.2.2, hb.1.1, hb.1.2.1, hb.1.2.2⟩, hs, ha.2, hb.2⟩
theorem small_zero : SmallV ⟨0, 0, ⟨#[]⟩⟩ := seqv_wf _ _ _ (by omega) (by constructor <;> omega) (by decide)
theorem DF.grow {W0 a c d : World} {b : Nat} {v : Value} (h : DF W0 b a c) (hg : c.grownBy d v.ownBlock) (hv : ∀ q, v.ownBlock = some q → a.heap.size ≤ q) (hb : b < a.heap.size) : DF W0 b a d :=
  h.kept' (S := fun q => some q = v.ownBlock) (kept_grown hg) (fun q hq => hv q hq.symm) hb (h.cur.below.grown (row := v.ownBlock) hg h.cur.below.size (fun k hk => by have := hv k hk; have := h.cur.below.size; have := h.cur.lo; omega)) hg.size
theorem DF.sets {W0 a c d : World} {b q : Nat} (h : DF W0 b a c) (hk : Kept (· = q) c d) (hq : a.heap.size ≤ q) (hb : b < a.heap.size) (hB : ∀ B, B ≤ q → Below B c d) : DF W0 b a d :=
  h.kept' hk (fun k e => by omega) hb (h.cur.below.trans (hB _ (by have := h.cur.lo; omega))) (hB 0 (Nat.zero_le _)).size
theorem sets3 {c : World} {q i j k : Nat} {x y z : Value} : Kept (· = q) c (((c.setCell ⟨q, i, none⟩ x).setCell ⟨q, j, none⟩ y).setCell ⟨q, k, none⟩ z) ∧ ∀ B, B ≤ q → Below B c (((c.setCell ⟨q, i, none⟩ x).setCell ⟨q, j, none⟩ y).setCell ⟨q, k, none⟩ z) :=
  ⟨Kept.set (S := (· = q)) (p := ⟨q, k, none⟩) (Kept.set (S := (· = q)) (p := ⟨q, j, none⟩) (Kept.set (S := (· = q)) (p := ⟨q, i, none⟩) (Kept.refl _ _) rfl _) rfl _) rfl _,
   fun B hB => (((Below.refl B c).setCell (p := ⟨q, i, none⟩) hB x).setCell (p := ⟨q, j, none⟩) hB y).setCell (p := ⟨q, k, none⟩) hB z⟩
theorem sets1 {c : World} {q i : Nat} {x : Value} : Kept (· = q) c (c.setCell ⟨q, i, none⟩ x) ∧ ∀ B, B ≤ q → Below B c (c.setCell ⟨q, i, none⟩ x) :=
  ⟨Kept.set (S := (· = q)) (p := ⟨q, i, none⟩) (Kept.refl _ _) rfl _, fun B hB => (Below.refl B c).setCell (p := ⟨q, i, none⟩) hB x⟩

theorem two_strs {W : World} {g k : Nat} (h : RowAt W g 0 [.string ⟨#[78, 111, 100, 101]⟩, .string ⟨#[58, 58]⟩]) (hk : k < 2) : ∃ s : ByteArray, s.size ≤ 5 ∧ W.cell? ⟨g, k, none⟩ = some (.string s) := by
  match k, hk with
  | 0, _ => exact ⟨⟨#[78, 111, 100, 101]⟩, by decide, h.box2.1⟩
  | 1, _ => exact ⟨⟨#[58, 58]⟩, by decide, h.box2.2⟩
def HdPost (W0 w : World) (b : Nat) (e : Ending) (w' : World) : Prop :=
  ∃ (v0 v1 : Value) (cs : List GCell) (vs : List GVal), e = .returned (.tuple #[v0, v1]) ∧ OwnCells w.heap.size w' v0 cs ∧ OwnVals w.heap.size w' v1 vs ∧ cs.length ≤ 12 ∧ (∀ c ∈ cs, SmallC c) ∧ DF W0 b w w'

set_option maxRecDepth 100000 in
set_option maxHeartbeats 16000000 in
theorem l11Draw_c (W0 w : World) (b : Nat) (C : Cur W0 w b) :
    Calls Try.prog 37 #[.pointer (some ⟨b, 0, none⟩)] w (HdPost W0 w b) := by
  have hbl := C.lt
  obtain ⟨i0, hi0, hz0, hz1, hz2⟩ := info_parts info_CellS
  have I := Lib.hid hi0; have I0 := Lib.hid hz0; have I1 := Lib.hid hz1; have I2 := Lib.hid hz2
  clear hi0 hz0 hz1 hz2
  obtain ⟨j0, hi0, hz0, hz1, hz2⟩ := info_parts info_ValS
  have J := Lib.hid hi0; have J0 := Lib.hid hz0; have J1 := Lib.hid hz1; have J2 := Lib.hid hz2
  clear hi0 hz0 hz1 hz2
  go_enter Try.func37, Try.ntmps37
  go_upto_region 2 with fail
  obtain ⟨w1, hW1⟩ : ∃ W, W = w.alloc (.cells #[] 30) := ⟨_, rfl⟩
  rw [← hW1]
  have D1 : DF W0 b w w1 := by rw [hW1]; exact (DF.refl C).alloc _
  have OC : OwnCells w.heap.size w1 (.slice (some ⟨w.heap.size, 0, none⟩) 0 0) [] := ⟨by
    have h1 := own_new w #[] 30 9 0 rfl (by unfold maxLen; omega) w.heap.size (Nat.le_refl _)
    rw [hW1]; simpa [rowsOf] using h1, fun x hx => by cases hx⟩
  clear hW1
  go_upto_region 3 with (go_at_call 38; (with_reducible refine (l01Below_c W0 _ b 12 (by omega) D1.cur).mono ?_); rintro e w2 ⟨x, rfl, hx0, hx1, hx2, D2⟩)
  obtain ⟨m, rfl⟩ := Int.eq_ofNat_of_zero_le hx0
  have hm : m < 12 := by omega
  have OC2 := OC.kept D2.kept (fun g hg e => by have := OC.base g hg; omega)
  have D := D1.trans D2
  clear D1 D2 OC hx0 hx1 hx2
  replace OC2 := Lib.hid OC2; replace C := Lib.hid C
  go_wp2_with fail
  go_loopw [6, 4, 7] (fun ii hv zz wr => ∃ (k : Nat) (v : Value) (cs : List GCell), k ≤ m ∧ ii = .int .i64 (k : Int) ∧ hv = v ∧ cs.length = k ∧ (∀ c ∈ cs, SmallC c) ∧ OwnCells w.heap.size wr v cs ∧ DF W0 b w wr) (fun ii _ _ _ => m - (intOf ii).toNat)
  case atStart => exact ⟨0, _, [], by omega, rfl, rfl, rfl, (fun c hc => by cases hc), OC2.out, D⟩
  case round =>
    clear D OC2
    obtain ⟨k, v, cs, hk, rfl, rfl, hl, hsm, OC, D⟩ := hrel
    obtain ⟨va, vc, rfl⟩ := OC.form
    rw [hl] at OC ⊢
    have hob := OC.base
    have hsD := D.size
    have hown : Hid (wr.ownsRow w.heap.size 30 9 (.slice va k vc) k (rowsOf cellRow cs)) := hl ▸ OC.1
    have hwfs := OC.2
    replace hl := Lib.hid hl; replace hsm := Lib.hid hsm; replace hob := Lib.hid hob; replace hwfs := Lib.hid hwfs
    clear OC
    by_cases hlt : k < m
    · go_upto_region 7 with (first
        | (go_at_call 38; (with_reducible refine (l01Below_c W0 _ b 6 (by omega) D.cur).mono ?_); rintro e w3 ⟨x, rfl, hx0, hx1, hx2, D3⟩; obtain ⟨x, rfl⟩ := Int.eq_ofNat_of_zero_le hx0; have hx6 : x < 6 := (by omega); have hwx : IntKind.i64.wrap (1 + (x : Int)) = 1 + (x : Int) := IntWalk.i64_in _ (by omega); clear hx0 hx1 hx2)
        | (go_at_call 70; (with_reducible refine (l11DrawVal_c W0 _ b m (by omega) D3.cur).mono ?_); rintro e w4 ⟨a, rfl, ha, D4⟩))
      have D5 := D3.trans D4
      have own4 := own_kept hown.out D5.kept (fun g hg e => by have := hob.out g hg; omega)
      have D6 := D.trans D5
      obtain ⟨K, hK⟩ : ∃ K : Int, K = 1 + (x : Int) := ⟨_, rfl⟩
      obtain ⟨w5, hW5⟩ : ∃ W, W = w4.alloc (.cells #[.int .i64 K, .int .i64 0, .string ⟨#[]⟩, .int .i64 a.kind, .int .i64 a.n, .string a.s, .int .i64 0, .int .i64 0, .string ⟨#[]⟩] 30) := ⟨_, rfl⟩
      rw [← hK, ← hW5]
      have D7 : DF W0 b w w5 := by rw [hW5]; exact D6.alloc _
      have hb5 : Below w4.heap.size w4 w5 := by rw [hW5]; go_grown
      have own5 := Lib.hid (own_below own4 hb5)
      have R5 : RowAt w5 w4.heap.size 0 [.int .i64 K, .int .i64 0, .string ⟨#[]⟩, .int .i64 a.kind, .int .i64 a.n, .string a.s, .int .i64 0, .int .i64 0, .string ⟨#[]⟩] := by rw [hW5]; exact RowAt.box w4 #[_, _, _, _, _, _, _, _, _] _
      have WR5 : Wr w5 w4.heap.size 0 9 := by rw [hW5]; exact Wr.box w4 #[_, _, _, _, _, _, _, _, _] _
      have hs6 := D6.size
      have hob4 : Hid (∀ g, (Value.slice va k vc).ownBlock = some g → w.heap.size ≤ g ∧ g < w4.heap.size) := fun g hg => by have := hob.out g hg; have := D5.size; omega
      clear hW5 hb5 own4 D3 D4 D5 D6 D hown hwx hob
      generalize w4.heap.size = q at *
      have hq5 : q < w5.heap.size := World.block_lt_of_cell? _ _ R5.box9.1
      have hKc : K = 1 ∨ K = 2 ∨ K = 3 ∨ K = 4 ∨ K = 5 ∨ K = 6 := by omega
      clear hK
      obtain ⟨r_0, r_1, r_2, r_3, r_4, r_5, r_6, r_7, r_8⟩ := R5.box9
      have f_1 := WR5.frz 1 (by omega); have f_2 := WR5.frz 2 (by omega); have f_6 := WR5.frz 6 (by omega); have f_7 := WR5.frz 7 (by omega); have f_8 := WR5.frz 8 (by omega)
      rcases hKc with rfl | rfl | rfl | rfl | rfl | rfl
      · go_upto_region 10 with fail
        go_upto_region 11 with (go_at_call 38; (with_reducible refine (l01Below_c W0 _ b 2 (by omega) (D7.alloc _).cur).mono ?_); rintro e w6 ⟨x, rfl, hx0, hx1, hx2, D8⟩; obtain ⟨j, rfl⟩ := Int.eq_ofNat_of_zero_le hx0; have hj : j < 2 := (by omega); have hrow := (RowAt.box w5 #[.string ⟨#[78, 111, 100, 101]⟩, .string ⟨#[58, 58]⟩] 9).kept D8.kept (by omega); obtain ⟨s, hs5, p0⟩ := two_strs hrow hj; have own6 := Lib.hid (own_kept (own_below own5.out (Below.alloc (Below.refl _ _) (Nat.le_refl _) (.cells #[.string ⟨#[78, 111, 100, 101]⟩, .string ⟨#[58, 58]⟩] 9))) D8.kept (fun g hg e => by have := hob4.out g hg; omega)); have R6 := (R5.below (Below.alloc (Below.refl _ _) (Nat.le_refl _) (.cells #[.string ⟨#[78, 111, 100, 101]⟩, .string ⟨#[58, 58]⟩] 9))).kept D8.kept (by omega); have WR6 := (WR5.below (Below.alloc (Below.refl _ _) (Nat.le_refl _) (.cells #[.string ⟨#[78, 111, 100, 101]⟩, .string ⟨#[58, 58]⟩] 9))).kept D8.kept (by omega); have D9 := (D7.alloc _).trans D8; clear hrow; obtain ⟨s_0, s_1, s_2, s_3, s_4, s_5, s_6, s_7, s_8⟩ := R6.box9; have g_2 := WR6.frz 2 (by omega))
        obtain ⟨w8, hW8⟩ : ∃ W, W = w6.setCell ⟨q, 2, none⟩ (.string s) := ⟨_, rfl⟩
        rw [← hW8]
        have R8 : RowAt w8 q 0 [.int .i64 1, .int .i64 0, .string s, .int .i64 a.kind, .int .i64 a.n, .string a.s, .int .i64 0, .int .i64 0, .string ⟨#[]⟩] := by rw [hW8]; exact R6.putAt (j := 2) (by simp) _
        have K8 : Kept (· = q) w6 w8 ∧ ∀ B, B ≤ q → Below B w6 w8 := by rw [hW8]; exact sets1
        have D10 : DF W0 b w w8 := D9.sets K8.1 hs6 hbl K8.2
        have own8 := Lib.hid (own_kept own6.out K8.1 (fun g hg e => by have := hob4.out g hg; omega))
        clear hW8 K8 R6 WR6 own6 s_0 s_1 s_2 s_3 s_4 s_5 s_6 s_7 s_8 g_2 p0 D8 D9
        clear R5 WR5 r_0 r_1 r_2 r_3 r_4 r_5 r_6 r_7 r_8 f_1 f_2 f_6 f_7 f_8
        obtain ⟨r_0, r_1, r_2, r_3, r_4, r_5, r_6, r_7, r_8⟩ := R8.box9
        have hsW := D10.size
        have hc : SmallC ⟨1, 0, s, a, ⟨0, 0, ⟨#[]⟩⟩⟩ := small_mk (by constructor <;> omega) (by constructor <;> omega) (hs5) ha small_zero
        replace hc := Lib.hid hc
        go_wp2_with (at_builtin; refine wpList_append_lies _ rfl _ _ _ rfl w.heap.size 30 i0 _ 9 96 Try.underlying23 I.out I0.out I1.out I2.out rfl (by omega) (.slice va k vc) k (rowsOf cellRow cs) rfl (own_below own8.out (by go_grown)) ⟨w8.heap.size, 0, none⟩ 1 1 [.int .i64 1, .int .i64 0, .string s, .int .i64 a.kind, .int .i64 a.n, .string a.s, .int .i64 0, .int .i64 0, .string ⟨#[]⟩] rfl rfl (World.news_of_block (cs := #[.int .i64 1, .int .i64 0, .string s, .int .i64 a.kind, .int .i64 a.n, .string a.s, .int .i64 0, .int .i64 0, .string ⟨#[]⟩]) (t := 30) (fr := (0, 0)) (heap_alloc_new' _ _ _ (by simp))) (by intro u hu; simp at hu; rcases hu with rfl | rfl | rfl | rfl | rfl | rfl | rfl | rfl | rfl <;> rfl) (by omega) (by unfold maxLen; omega) (by omega) (by simp; omega) _ rfl ?_; intro g cap w9 hown hgrow hat hlt3)
        go_roundw
        case rel =>
          have D9 := (D10.alloc (.cells #[.int .i64 1, .int .i64 0, .string s, .int .i64 a.kind, .int .i64 a.n, .string a.s, .int .i64 0, .int .i64 0, .string ⟨#[]⟩] 30)).grow hgrow (fun q hq => (hob4.out q hq).1) hbl
          refine ⟨k + 1, _, cs ++ [⟨1, 0, s, a, ⟨0, 0, ⟨#[]⟩⟩⟩], by omega, by go_num, rfl, by rw [List.length_append, hl.out]; rfl, fun c hc' => ?_, ⟨?_, fun y hy => ?_⟩, D9⟩
          · rcases List.mem_append.1 hc' with h | h
            · exact hsm.out c h
            · simp at h; subst h; exact hc.out
          · have : (cs ++ [(⟨1, 0, s, a, ⟨0, 0, ⟨#[]⟩⟩⟩ : GCell)]).length = k + 1 := by rw [List.length_append, hl.out]; rfl
            rw [this, rowsOf_append, rowsOf_one]
            exact hown
          · rcases List.mem_append.1 hy with h' | h'
            · exact hwfs.out y h'
            · simp at h'; subst h'; exact hc.out.1
        case measure => simp [intOf]; omega
      · go_upto_region 8 with fail
        go_upto_region 9 with (go_at_call 70; (with_reducible refine (l11DrawVal_c W0 _ b m (by omega) D7.cur).mono ?_); rintro e w6 ⟨u, rfl, hu, D8⟩; have own6 := Lib.hid (own_kept own5.out D8.kept (fun g hg e => by have := hob4.out g hg; omega)); have R6 := R5.kept D8.kept (by omega); have WR6 := WR5.kept D8.kept (by omega); have D9 := D7.trans D8; obtain ⟨s_0, s_1, s_2, s_3, s_4, s_5, s_6, s_7, s_8⟩ := R6.box9; have g_6 := WR6.frz 6 (by omega); have g_7 := WR6.frz 7 (by omega); have g_8 := WR6.frz 8 (by omega))
        obtain ⟨w8, hW8⟩ : ∃ W, W = ((w6.setCell ⟨q, 6, none⟩ (.int .i64 u.kind)).setCell ⟨q, 7, none⟩ (.int .i64 u.n)).setCell ⟨q, 8, none⟩ (.string u.s) := ⟨_, rfl⟩
        rw [← hW8]
        have R8 : RowAt w8 q 0 [.int .i64 2, .int .i64 0, .string ⟨#[]⟩, .int .i64 a.kind, .int .i64 a.n, .string a.s, .int .i64 u.kind, .int .i64 u.n, .string u.s] := by rw [hW8]; exact ((R6.putAt (j := 6) (by simp) _).putAt (j := 7) (by simp) _).putAt (j := 8) (by simp) _
        have K8 : Kept (· = q) w6 w8 ∧ ∀ B, B ≤ q → Below B w6 w8 := by rw [hW8]; exact sets3
        have D10 : DF W0 b w w8 := D9.sets K8.1 hs6 hbl K8.2
        have own8 := Lib.hid (own_kept own6.out K8.1 (fun g hg e => by have := hob4.out g hg; omega))
        clear hW8 K8 R6 WR6 own6 s_0 s_1 s_2 s_3 s_4 s_5 s_6 s_7 s_8 g_6 g_7 g_8 D8 D9
        clear R5 WR5 r_0 r_1 r_2 r_3 r_4 r_5 r_6 r_7 r_8 f_1 f_2 f_6 f_7 f_8
        obtain ⟨r_0, r_1, r_2, r_3, r_4, r_5, r_6, r_7, r_8⟩ := R8.box9
        have hsW := D10.size
        have hc : SmallC ⟨2, 0, ⟨#[]⟩, a, u⟩ := small_mk (by constructor <;> omega) (by constructor <;> omega) (by decide) ha hu
        replace hc := Lib.hid hc
        go_wp2_with (at_builtin; refine wpList_append_lies _ rfl _ _ _ rfl w.heap.size 30 i0 _ 9 96 Try.underlying23 I.out I0.out I1.out I2.out rfl (by omega) (.slice va k vc) k (rowsOf cellRow cs) rfl (own_below own8.out (by go_grown)) ⟨w8.heap.size, 0, none⟩ 1 1 [.int .i64 2, .int .i64 0, .string ⟨#[]⟩, .int .i64 a.kind, .int .i64 a.n, .string a.s, .int .i64 u.kind, .int .i64 u.n, .string u.s] rfl rfl (World.news_of_block (cs := #[.int .i64 2, .int .i64 0, .string ⟨#[]⟩, .int .i64 a.kind, .int .i64 a.n, .string a.s, .int .i64 u.kind, .int .i64 u.n, .string u.s]) (t := 30) (fr := (0, 0)) (heap_alloc_new' _ _ _ (by simp))) (by intro u hu; simp at hu; rcases hu with rfl | rfl | rfl | rfl | rfl | rfl | rfl | rfl | rfl <;> rfl) (by omega) (by unfold maxLen; omega) (by omega) (by simp; omega) _ rfl ?_; intro g cap w9 hown hgrow hat hlt3)
        go_roundw
        case rel =>
          have D9 := (D10.alloc (.cells #[.int .i64 2, .int .i64 0, .string ⟨#[]⟩, .int .i64 a.kind, .int .i64 a.n, .string a.s, .int .i64 u.kind, .int .i64 u.n, .string u.s] 30)).grow hgrow (fun q hq => (hob4.out q hq).1) hbl
          refine ⟨k + 1, _, cs ++ [⟨2, 0, ⟨#[]⟩, a, u⟩], by omega, by go_num, rfl, by rw [List.length_append, hl.out]; rfl, fun c hc' => ?_, ⟨?_, fun y hy => ?_⟩, D9⟩
          · rcases List.mem_append.1 hc' with h | h
            · exact hsm.out c h
            · simp at h; subst h; exact hc.out
          · have : (cs ++ [(⟨2, 0, ⟨#[]⟩, a, u⟩ : GCell)]).length = k + 1 := by rw [List.length_append, hl.out]; rfl
            rw [this, rowsOf_append, rowsOf_one]
            exact hown
          · rcases List.mem_append.1 hy with h' | h'
            · exact hwfs.out y h'
            · simp at h'; subst h'; exact hc.out.1
        case measure => simp [intOf]; omega
      · go_upto_region 12 with fail
        go_upto_region 13 with (go_at_call 38; (with_reducible refine (l01Below_c W0 _ b 50 (by omega) D7.cur).mono ?_); rintro e w6 ⟨x, rfl, hx0, hx1, hx2, D8⟩; have own6 := Lib.hid (own_kept own5.out D8.kept (fun g hg e => by have := hob4.out g hg; omega)); have R6 := R5.kept D8.kept (by omega); have WR6 := WR5.kept D8.kept (by omega); have D9 := D7.trans D8; obtain ⟨s_0, s_1, s_2, s_3, s_4, s_5, s_6, s_7, s_8⟩ := R6.box9; have g_1 := WR6.frz 1 (by omega))
        have hx50 : x < 50 := hx1 (by omega)
        obtain ⟨w8, hW8⟩ : ∃ W, W = w6.setCell ⟨q, 1, none⟩ (.int .i64 x) := ⟨_, rfl⟩
        rw [← hW8]
        have R8 : RowAt w8 q 0 [.int .i64 3, .int .i64 x, .string ⟨#[]⟩, .int .i64 a.kind, .int .i64 a.n, .string a.s, .int .i64 0, .int .i64 0, .string ⟨#[]⟩] := by rw [hW8]; exact R6.putAt (j := 1) (by simp) _
        have K8 : Kept (· = q) w6 w8 ∧ ∀ B, B ≤ q → Below B w6 w8 := by rw [hW8]; exact sets1
        have D10 : DF W0 b w w8 := D9.sets K8.1 hs6 hbl K8.2
        have own8 := Lib.hid (own_kept own6.out K8.1 (fun g hg e => by have := hob4.out g hg; omega))
        clear hW8 K8 R6 WR6 own6 s_0 s_1 s_2 s_3 s_4 s_5 s_6 s_7 s_8 g_1 D8 D9
        clear R5 WR5 r_0 r_1 r_2 r_3 r_4 r_5 r_6 r_7 r_8 f_1 f_2 f_6 f_7 f_8
        obtain ⟨r_0, r_1, r_2, r_3, r_4, r_5, r_6, r_7, r_8⟩ := R8.box9
        have hsW := D10.size
        have hc : SmallC ⟨3, x, ⟨#[]⟩, a, ⟨0, 0, ⟨#[]⟩⟩⟩ := small_mk (by constructor <;> omega) (by constructor <;> omega) (by decide) ha small_zero
        replace hc := Lib.hid hc
        go_wp2_with (at_builtin; refine wpList_append_lies _ rfl _ _ _ rfl w.heap.size 30 i0 _ 9 96 Try.underlying23 I.out I0.out I1.out I2.out rfl (by omega) (.slice va k vc) k (rowsOf cellRow cs) rfl (own_below own8.out (by go_grown)) ⟨w8.heap.size, 0, none⟩ 1 1 [.int .i64 3, .int .i64 x, .string ⟨#[]⟩, .int .i64 a.kind, .int .i64 a.n, .string a.s, .int .i64 0, .int .i64 0, .string ⟨#[]⟩] rfl rfl (World.news_of_block (cs := #[.int .i64 3, .int .i64 x, .string ⟨#[]⟩, .int .i64 a.kind, .int .i64 a.n, .string a.s, .int .i64 0, .int .i64 0, .string ⟨#[]⟩]) (t := 30) (fr := (0, 0)) (heap_alloc_new' _ _ _ (by simp))) (by intro u hu; simp at hu; rcases hu with rfl | rfl | rfl | rfl | rfl | rfl | rfl | rfl | rfl <;> rfl) (by omega) (by unfold maxLen; omega) (by omega) (by simp; omega) _ rfl ?_; intro g cap w9 hown hgrow hat hlt3)
        go_roundw
        case rel =>
          have D9 := (D10.alloc (.cells #[.int .i64 3, .int .i64 x, .string ⟨#[]⟩, .int .i64 a.kind, .int .i64 a.n, .string a.s, .int .i64 0, .int .i64 0, .string ⟨#[]⟩] 30)).grow hgrow (fun q hq => (hob4.out q hq).1) hbl
          refine ⟨k + 1, _, cs ++ [⟨3, x, ⟨#[]⟩, a, ⟨0, 0, ⟨#[]⟩⟩⟩], by omega, by go_num, rfl, by rw [List.length_append, hl.out]; rfl, fun c hc' => ?_, ⟨?_, fun y hy => ?_⟩, D9⟩
          · rcases List.mem_append.1 hc' with h | h
            · exact hsm.out c h
            · simp at h; subst h; exact hc.out
          · have : (cs ++ [(⟨3, x, ⟨#[]⟩, a, ⟨0, 0, ⟨#[]⟩⟩⟩ : GCell)]).length = k + 1 := by rw [List.length_append, hl.out]; rfl
            rw [this, rowsOf_append, rowsOf_one]
            exact hown
          · rcases List.mem_append.1 hy with h' | h'
            · exact hwfs.out y h'
            · simp at h'; subst h'; exact hc.out.1
        case measure => simp [intOf]; omega
      · go_upto_region 12 with fail
        go_upto_region 13 with (go_at_call 38; (with_reducible refine (l01Below_c W0 _ b 50 (by omega) D7.cur).mono ?_); rintro e w6 ⟨x, rfl, hx0, hx1, hx2, D8⟩; have own6 := Lib.hid (own_kept own5.out D8.kept (fun g hg e => by have := hob4.out g hg; omega)); have R6 := R5.kept D8.kept (by omega); have WR6 := WR5.kept D8.kept (by omega); have D9 := D7.trans D8; obtain ⟨s_0, s_1, s_2, s_3, s_4, s_5, s_6, s_7, s_8⟩ := R6.box9; have g_1 := WR6.frz 1 (by omega))
        have hx50 : x < 50 := hx1 (by omega)
        obtain ⟨w8, hW8⟩ : ∃ W, W = w6.setCell ⟨q, 1, none⟩ (.int .i64 x) := ⟨_, rfl⟩
        rw [← hW8]
        have R8 : RowAt w8 q 0 [.int .i64 4, .int .i64 x, .string ⟨#[]⟩, .int .i64 a.kind, .int .i64 a.n, .string a.s, .int .i64 0, .int .i64 0, .string ⟨#[]⟩] := by rw [hW8]; exact R6.putAt (j := 1) (by simp) _
        have K8 : Kept (· = q) w6 w8 ∧ ∀ B, B ≤ q → Below B w6 w8 := by rw [hW8]; exact sets1
        have D10 : DF W0 b w w8 := D9.sets K8.1 hs6 hbl K8.2
        have own8 := Lib.hid (own_kept own6.out K8.1 (fun g hg e => by have := hob4.out g hg; omega))
        clear hW8 K8 R6 WR6 own6 s_0 s_1 s_2 s_3 s_4 s_5 s_6 s_7 s_8 g_1 D8 D9
        clear R5 WR5 r_0 r_1 r_2 r_3 r_4 r_5 r_6 r_7 r_8 f_1 f_2 f_6 f_7 f_8
        obtain ⟨r_0, r_1, r_2, r_3, r_4, r_5, r_6, r_7, r_8⟩ := R8.box9
        have hsW := D10.size
        have hc : SmallC ⟨4, x, ⟨#[]⟩, a, ⟨0, 0, ⟨#[]⟩⟩⟩ := small_mk (by constructor <;> omega) (by constructor <;> omega) (by decide) ha small_zero
        replace hc := Lib.hid hc
        go_wp2_with (at_builtin; refine wpList_append_lies _ rfl _ _ _ rfl w.heap.size 30 i0 _ 9 96 Try.underlying23 I.out I0.out I1.out I2.out rfl (by omega) (.slice va k vc) k (rowsOf cellRow cs) rfl (own_below own8.out (by go_grown)) ⟨w8.heap.size, 0, none⟩ 1 1 [.int .i64 4, .int .i64 x, .string ⟨#[]⟩, .int .i64 a.kind, .int .i64 a.n, .string a.s, .int .i64 0, .int .i64 0, .string ⟨#[]⟩] rfl rfl (World.news_of_block (cs := #[.int .i64 4, .int .i64 x, .string ⟨#[]⟩, .int .i64 a.kind, .int .i64 a.n, .string a.s, .int .i64 0, .int .i64 0, .string ⟨#[]⟩]) (t := 30) (fr := (0, 0)) (heap_alloc_new' _ _ _ (by simp))) (by intro u hu; simp at hu; rcases hu with rfl | rfl | rfl | rfl | rfl | rfl | rfl | rfl | rfl <;> rfl) (by omega) (by unfold maxLen; omega) (by omega) (by simp; omega) _ rfl ?_; intro g cap w9 hown hgrow hat hlt3)
        go_roundw
        case rel =>
          have D9 := (D10.alloc (.cells #[.int .i64 4, .int .i64 x, .string ⟨#[]⟩, .int .i64 a.kind, .int .i64 a.n, .string a.s, .int .i64 0, .int .i64 0, .string ⟨#[]⟩] 30)).grow hgrow (fun q hq => (hob4.out q hq).1) hbl
          refine ⟨k + 1, _, cs ++ [⟨4, x, ⟨#[]⟩, a, ⟨0, 0, ⟨#[]⟩⟩⟩], by omega, by go_num, rfl, by rw [List.length_append, hl.out]; rfl, fun c hc' => ?_, ⟨?_, fun y hy => ?_⟩, D9⟩
          · rcases List.mem_append.1 hc' with h | h
            · exact hsm.out c h
            · simp at h; subst h; exact hc.out
          · have : (cs ++ [(⟨4, x, ⟨#[]⟩, a, ⟨0, 0, ⟨#[]⟩⟩⟩ : GCell)]).length = k + 1 := by rw [List.length_append, hl.out]; rfl
            rw [this, rowsOf_append, rowsOf_one]
            exact hown
          · rcases List.mem_append.1 hy with h' | h'
            · exact hwfs.out y h'
            · simp at h'; subst h'; exact hc.out.1
        case measure => simp [intOf]; omega
      · go_upto_region 13 with fail
        clear r_0 r_1 r_2 r_3 r_4 r_5 r_6 r_7 r_8 f_1 f_2 f_6 f_7 f_8
        obtain ⟨r_0, r_1, r_2, r_3, r_4, r_5, r_6, r_7, r_8⟩ := R5.box9
        have hsW := D7.size
        have hc : SmallC ⟨5, 0, ⟨#[]⟩, a, ⟨0, 0, ⟨#[]⟩⟩⟩ := small_mk (by constructor <;> omega) (by constructor <;> omega) (by decide) ha small_zero
        replace hc := Lib.hid hc
        go_wp2_with (at_builtin; refine wpList_append_lies _ rfl _ _ _ rfl w.heap.size 30 i0 _ 9 96 Try.underlying23 I.out I0.out I1.out I2.out rfl (by omega) (.slice va k vc) k (rowsOf cellRow cs) rfl (own_below own5.out (by go_grown)) ⟨w5.heap.size, 0, none⟩ 1 1 [.int .i64 5, .int .i64 0, .string ⟨#[]⟩, .int .i64 a.kind, .int .i64 a.n, .string a.s, .int .i64 0, .int .i64 0, .string ⟨#[]⟩] rfl rfl (World.news_of_block (cs := #[.int .i64 5, .int .i64 0, .string ⟨#[]⟩, .int .i64 a.kind, .int .i64 a.n, .string a.s, .int .i64 0, .int .i64 0, .string ⟨#[]⟩]) (t := 30) (fr := (0, 0)) (heap_alloc_new' _ _ _ (by simp))) (by intro u hu; simp at hu; rcases hu with rfl | rfl | rfl | rfl | rfl | rfl | rfl | rfl | rfl <;> rfl) (by omega) (by unfold maxLen; omega) (by omega) (by simp; omega) _ rfl ?_; intro g cap w9 hown hgrow hat hlt3)
        go_roundw
        case rel =>
          have D9 := (D7.alloc (.cells #[.int .i64 5, .int .i64 0, .string ⟨#[]⟩, .int .i64 a.kind, .int .i64 a.n, .string a.s, .int .i64 0, .int .i64 0, .string ⟨#[]⟩] 30)).grow hgrow (fun q hq => (hob4.out q hq).1) hbl
          refine ⟨k + 1, _, cs ++ [⟨5, 0, ⟨#[]⟩, a, ⟨0, 0, ⟨#[]⟩⟩⟩], by omega, by go_num, rfl, by rw [List.length_append, hl.out]; rfl, fun c hc' => ?_, ⟨?_, fun y hy => ?_⟩, D9⟩
          · rcases List.mem_append.1 hc' with h | h
            · exact hsm.out c h
            · simp at h; subst h; exact hc.out
          · have : (cs ++ [(⟨5, 0, ⟨#[]⟩, a, ⟨0, 0, ⟨#[]⟩⟩⟩ : GCell)]).length = k + 1 := by rw [List.length_append, hl.out]; rfl
            rw [this, rowsOf_append, rowsOf_one]
            exact hown
          · rcases List.mem_append.1 hy with h' | h'
            · exact hwfs.out y h'
            · simp at h'; subst h'; exact hc.out.1
        case measure => simp [intOf]; omega
      · go_upto_region 8 with fail
        go_upto_region 9 with (go_at_call 70; (with_reducible refine (l11DrawVal_c W0 _ b m (by omega) D7.cur).mono ?_); rintro e w6 ⟨u, rfl, hu, D8⟩; have own6 := Lib.hid (own_kept own5.out D8.kept (fun g hg e => by have := hob4.out g hg; omega)); have R6 := R5.kept D8.kept (by omega); have WR6 := WR5.kept D8.kept (by omega); have D9 := D7.trans D8; obtain ⟨s_0, s_1, s_2, s_3, s_4, s_5, s_6, s_7, s_8⟩ := R6.box9; have g_6 := WR6.frz 6 (by omega); have g_7 := WR6.frz 7 (by omega); have g_8 := WR6.frz 8 (by omega))
        obtain ⟨w8, hW8⟩ : ∃ W, W = ((w6.setCell ⟨q, 6, none⟩ (.int .i64 u.kind)).setCell ⟨q, 7, none⟩ (.int .i64 u.n)).setCell ⟨q, 8, none⟩ (.string u.s) := ⟨_, rfl⟩
        rw [← hW8]
        have R8 : RowAt w8 q 0 [.int .i64 6, .int .i64 0, .string ⟨#[]⟩, .int .i64 a.kind, .int .i64 a.n, .string a.s, .int .i64 u.kind, .int .i64 u.n, .string u.s] := by rw [hW8]; exact ((R6.putAt (j := 6) (by simp) _).putAt (j := 7) (by simp) _).putAt (j := 8) (by simp) _
        have K8 : Kept (· = q) w6 w8 ∧ ∀ B, B ≤ q → Below B w6 w8 := by rw [hW8]; exact sets3
        have D10 : DF W0 b w w8 := D9.sets K8.1 hs6 hbl K8.2
        have own8 := Lib.hid (own_kept own6.out K8.1 (fun g hg e => by have := hob4.out g hg; omega))
        clear hW8 K8 R6 WR6 own6 s_0 s_1 s_2 s_3 s_4 s_5 s_6 s_7 s_8 g_6 g_7 g_8 D8 D9
        clear R5 WR5 r_0 r_1 r_2 r_3 r_4 r_5 r_6 r_7 r_8 f_1 f_2 f_6 f_7 f_8
        obtain ⟨r_0, r_1, r_2, r_3, r_4, r_5, r_6, r_7, r_8⟩ := R8.box9
        have hsW := D10.size
        have hc : SmallC ⟨6, 0, ⟨#[]⟩, a, u⟩ := small_mk (by constructor <;> omega) (by constructor <;> omega) (by decide) ha hu
        replace hc := Lib.hid hc
        go_wp2_with (at_builtin; refine wpList_append_lies _ rfl _ _ _ rfl w.heap.size 30 i0 _ 9 96 Try.underlying23 I.out I0.out I1.out I2.out rfl (by omega) (.slice va k vc) k (rowsOf cellRow cs) rfl (own_below own8.out (by go_grown)) ⟨w8.heap.size, 0, none⟩ 1 1 [.int .i64 6, .int .i64 0, .string ⟨#[]⟩, .int .i64 a.kind, .int .i64 a.n, .string a.s, .int .i64 u.kind, .int .i64 u.n, .string u.s] rfl rfl (World.news_of_block (cs := #[.int .i64 6, .int .i64 0, .string ⟨#[]⟩, .int .i64 a.kind, .int .i64 a.n, .string a.s, .int .i64 u.kind, .int .i64 u.n, .string u.s]) (t := 30) (fr := (0, 0)) (heap_alloc_new' _ _ _ (by simp))) (by intro u hu; simp at hu; rcases hu with rfl | rfl | rfl | rfl | rfl | rfl | rfl | rfl | rfl <;> rfl) (by omega) (by unfold maxLen; omega) (by omega) (by simp; omega) _ rfl ?_; intro g cap w9 hown hgrow hat hlt3)
        go_roundw
        case rel =>
          have D9 := (D10.alloc (.cells #[.int .i64 6, .int .i64 0, .string ⟨#[]⟩, .int .i64 a.kind, .int .i64 a.n, .string a.s, .int .i64 u.kind, .int .i64 u.n, .string u.s] 30)).grow hgrow (fun q hq => (hob4.out q hq).1) hbl
          refine ⟨k + 1, _, cs ++ [⟨6, 0, ⟨#[]⟩, a, u⟩], by omega, by go_num, rfl, by rw [List.length_append, hl.out]; rfl, fun c hc' => ?_, ⟨?_, fun y hy => ?_⟩, D9⟩
          · rcases List.mem_append.1 hc' with h | h
            · exact hsm.out c h
            · simp at h; subst h; exact hc.out
          · have : (cs ++ [(⟨6, 0, ⟨#[]⟩, a, u⟩ : GCell)]).length = k + 1 := by rw [List.length_append, hl.out]; rfl
            rw [this, rowsOf_append, rowsOf_one]
            exact hown
          · rcases List.mem_append.1 hy with h' | h'
            · exact hwfs.out y h'
            · simp at h'; subst h'; exact hc.out.1
        case measure => simp [intOf]; omega
    · obtain rfl : k = m := by omega
      obtain ⟨w3, hW3⟩ : ∃ W, W = wr.alloc (.cells #[] 28) := ⟨_, rfl⟩
      have D3 : DF W0 b w w3 := by rw [hW3]; exact D.alloc _
      have OV : OwnVals w.heap.size w3 (.slice (some ⟨wr.heap.size, 0, none⟩) 0 0) [] := ⟨by
        have h1 := own_new wr #[] 28 3 0 rfl (by unfold maxLen; omega) w.heap.size hsD
        rw [hW3]; simpa [rowsOf] using h1, fun x hx => by cases hx⟩
      have own3 := own_below hown.out (show Below wr.heap.size wr w3 by rw [hW3]; go_grown)
      have hz3 : wr.heap.size ≤ w3.heap.size := by rw [hW3]; simp
      have hnb : ∀ g, (Value.slice (some ⟨wr.heap.size, 0, none⟩) 0 0).ownBlock = some g → wr.heap.size ≤ g := fun g hg => by
        obtain rfl : wr.heap.size = g := by simpa [Value.ownBlock] using hg
        exact Nat.le_refl _
      go_upto_region 15 with fail
      rw [← hW3]
      clear hW3
      go_upto_region 16 with (go_at_call 38; (with_reducible refine (l01Below_c W0 _ b 4 (by omega) D3.cur).mono ?_); rintro e w4 ⟨x, rfl, hx0, hx1, hx2, D4⟩)
      obtain ⟨t, rfl⟩ := Int.eq_ofNat_of_zero_le hx0
      have ht : t < 4 := by omega
      have own4 := own_kept own3 D4.kept (fun g hg e => by have := hob.out g hg; omega)
      have OV4 := OV.kept D4.kept (fun g hg e => by have := OV.base g hg; omega)
      have D5 := D3.trans D4
      have hz := Nat.le_trans hz3 D4.size
      replace own4 := Lib.hid own4; replace OV4 := Lib.hid OV4
      clear own3 OV D3 D4 D hown hx0 hx1 hx2
      generalize hzq : wr.heap.size = zq at *
      go_loopw [9, 8] (fun ii hv wx => ∃ (j : Nat) (v : Value) (vs : List GVal), j ≤ t ∧ ii = .int .i64 (j : Int) ∧ hv = v ∧ vs.length + j = t ∧ (wx.ownsRow w.heap.size 30 9 (.slice va k vc) k (rowsOf cellRow cs)) ∧ (∀ g, v.ownBlock = some g → zq ≤ g) ∧ zq ≤ wx.heap.size ∧ OwnVals w.heap.size wx v vs ∧ DF W0 b w wx) (fun ii _ _ => (intOf ii).toNat)
      case atStart => exact ⟨t, _, [], Nat.le_refl _, rfl, rfl, by simp, own4.out, hnb, hz, OV4.out, D5⟩
      case round =>
        clear own4 OV4 D5 hnb hz
        obtain ⟨j, v, vs, hj, rfl, rfl, hl2, own, hnb, hzx, OV, D⟩ := hrel
        obtain ⟨xa, xc, rfl⟩ := OV.form
        have hvb := OV.base
        have hsD2 := D.size
        by_cases hj0 : 0 < j
        · have hown : Hid (wr.ownsRow w.heap.size 28 3 (.slice xa vs.length xc) vs.length (rowsOf valRow vs)) := OV.1
          have hwf2 := Lib.hid OV.2
          obtain ⟨n2, hn2⟩ : ∃ n, n = vs.length := ⟨_, rfl⟩
          rw [← hn2] at hown hnb hvb ⊢
          replace own := Lib.hid own; replace hnb := Lib.hid hnb; replace hvb := Lib.hid hvb; replace hn2 := Lib.hid hn2; replace hl2 := Lib.hid hl2
          have hn4 : n2 ≤ 4 := by have := hn2.out; have := hl2.out; omega
          clear OV
          go_wp2_with (first
            | (go_at_call 70; (with_reducible refine (l11DrawVal_c W0 _ b k (by omega) D.cur).mono ?_); rintro e w6 ⟨u, rfl, hu, D6⟩; have hown6 := Lib.hid (own_kept hown.out D6.kept (fun g hg e => by have := hvb.out g hg; omega)); have own6 := Lib.hid (own_kept own.out D6.kept (fun g hg e => by have := hob.out g hg; omega)); have D7 := D.trans D6; have hs7 := D7.size)
            | (at_builtin; refine wpList_append_lies _ rfl _ _ _ rfl w.heap.size 28 j0 _ 3 32 Try.underlying52 J.out J0.out J1.out J2.out rfl (by omega) (.slice xa n2 xc) n2 (rowsOf valRow vs) rfl (own_below hown6.out (by go_grown)) ⟨w6.heap.size, 0, none⟩ 1 1 [.int .i64 u.kind, .int .i64 u.n, .string u.s] rfl rfl (World.news_of_block (cs := #[.int .i64 u.kind, .int .i64 u.n, .string u.s]) (t := 28) (fr := (0, 0)) (heap_alloc_new' _ _ _ (by simp))) (by intro u hu; simp at hu; rcases hu with rfl | rfl | rfl <;> rfl) (by omega) (by unfold maxLen; omega) (by omega) (by simp; omega) _ rfl ?_; intro g cap w7 hown7 hgrow hat hlt3))
          go_roundw
          case rel =>
            have D9 := (D7.alloc (.cells #[.int .i64 u.kind, .int .i64 u.n, .string u.s] 28)).grow hgrow (fun q hq => (hvb.out q hq).1) hbl
            have own9 := own_kept (own_below own6.out (show Below w6.heap.size w6 (w6.alloc (.cells #[.int .i64 u.kind, .int .i64 u.n, .string u.s] 28)) by go_grown)) (kept_grown hgrow) (fun g hg e => by have := hob.out g hg; have := hnb.out g e.symm; omega)
            refine ⟨j - 1, _, vs ++ [u], by omega, by go_num, rfl, by rw [List.length_append]; have := hl2.out; simp; omega, own9, fun q hq => ?_, by have h1 := hgrow.size; have h2 := D6.size; (try simp only [World.size_alloc] at h1 h2); omega, ⟨?_, fun y hy => ?_⟩, D9⟩
            · obtain rfl : g = q := by simpa [Value.ownBlock] using hq
              rcases hat with h | h
              · exact hnb.out g h
              · have := D6.size; simp at h; omega
            · have : (vs ++ [u]).length = n2 + 1 := by rw [List.length_append, ← hn2.out]; rfl
              rw [this, rowsOf_append, rowsOf_one]
              exact hown7
            · rcases List.mem_append.1 hy with h' | h'
              · exact hwf2.out y h'
              · simp at h'; subst h'; exact hu.1
          case measure => simp [intOf]; omega
        · obtain rfl : j = 0 := by omega
          replace OV := Lib.hid OV; replace own := Lib.hid own
          go_wp2_with fail
          go_returns
          exact ⟨_, _, cs, vs, rfl, ⟨hl.out.symm ▸ own.out, hwfs.out⟩, OV.out, by have := hl.out; omega, hsm.out, D⟩

end Go.Proofs.Ytajbgkpjmgmdhaa

