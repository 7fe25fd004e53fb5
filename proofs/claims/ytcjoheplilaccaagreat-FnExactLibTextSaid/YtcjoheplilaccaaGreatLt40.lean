/- Parts of the proof, merged: LibTx, LibTx2, LibTextLaw, Open, Opens. -/
import Derived.Laws.EntriesVeiled
import Derived.Deep.Slices
import Derived.OpenShut
import Derived.Test.YtcjoheplilaccaaGreatRows
import Derived.Test.YtcjoheplilaccaaGreatLt39
/- LibText of both. -/
namespace Go.Proofs.YtcjoheplilaccaaGreat
open Go.RowKit
set_option linter.unusedVariables false
set_option linter.unusedSimpArgs false
attribute [local go_sem] Ext.cell

def recText (n a b : ByteArray) : ByteArray := (⟨#[108, 101, 116, 32, 114, 101, 99, 32]⟩ : ByteArray) ++ n ++ ⟨#[32]⟩ ++ a ++ ⟨#[32, 61, 32]⟩ ++ b ++ ⟨#[32, 105, 110, 32]⟩
def funText (n a b : ByteArray) : ByteArray := (⟨#[108, 101, 116, 32]⟩ : ByteArray) ++ n ++ ⟨#[32, 61, 32, 102, 117, 110, 32]⟩ ++ a ++ ⟨#[32, 45, 62, 32]⟩ ++ b ++ ⟨#[32, 105, 110, 32]⟩
def valText (n f : ByteArray) : ByteArray := (⟨#[108, 101, 116, 32]⟩ : ByteArray) ++ n ++ ⟨#[32, 61, 32]⟩ ++ f ++ ⟨#[32, 105, 110, 32]⟩
def defText (d : GDef) : ByteArray := if d.rec_ = true then recText d.name d.arg d.body else funText d.name d.arg d.body
/-- The text of a definition. -/
def libTextP (n : ByteArray) : ByteArray := match libDefs.find? (fun d => eqS d.name n) with
  | some d => defText d
  | none => ⟨#[]⟩
def ownT (n : ByteArray) : Bool := match treeL (libFunP n).data.toList with
  | some x => ownX n x
  | none => false
def cutA (f : ByteArray) : ByteArray := ⟨(Lib.cut (Lib.trimPrefix f.data.toList [102, 117, 110, 32]) [32, 45, 62, 32]).1.toArray⟩
def cutB (f : ByteArray) : ByteArray := ⟨(Lib.cut (Lib.trimPrefix f.data.toList [102, 117, 110, 32]) [32, 45, 62, 32]).2.1.toArray⟩
theorem own_eq : ∀ d ∈ libDefs, ownT d.name = d.rec_ := by
  intro d hd
  simp only [libDefs, List.mem_cons, List.not_mem_nil, or_false] at hd
  rcases hd with rfl | rfl | rfl | rfl | rfl | rfl | rfl | rfl | rfl | rfl | rfl | rfl | rfl <;> kernel_rfl
theorem cut_eq : ∀ d ∈ libDefs, d.rec_ = true → cutA (libFunP d.name) = d.arg ∧ cutB (libFunP d.name) = d.body := by
  intro d hd
  simp only [libDefs, List.mem_cons, List.not_mem_nil, or_false] at hd
  rcases hd with rfl | rfl | rfl | rfl | rfl | rfl | rfl | rfl | rfl | rfl | rfl | rfl | rfl <;> (intro h; first | (exact absurd h (by decide)) | exact ⟨by kernel_rfl, by kernel_rfl⟩)
theorem fun_eq : ∀ d ∈ libDefs, libFunP d.name = (⟨#[102, 117, 110, 32]⟩ : ByteArray) ++ d.arg ++ ⟨#[32, 45, 62, 32]⟩ ++ d.body := by
  intro d hd
  simp only [libDefs, List.mem_cons, List.not_mem_nil, or_false] at hd
  rcases hd with rfl | rfl | rfl | rfl | rfl | rfl | rfl | rfl | rfl | rfl | rfl | rfl | rfl <;> kernel_rfl
theorem sizes_eq : ∀ d ∈ libDefs, d.name.size ≤ 5 ∧ d.arg.size ≤ 5 ∧ d.body.size ≤ 100 := by
  intro d hd
  simp only [libDefs, List.mem_cons, List.not_mem_nil, or_false] at hd
  rcases hd with rfl | rfl | rfl | rfl | rfl | rfl | rfl | rfl | rfl | rfl | rfl | rfl | rfl <;> decide
theorem find_eq : ∀ d ∈ libDefs, libDefs.find? (fun e => eqS e.name d.name) = some d := by
  intro d hd
  simp only [libDefs, List.mem_cons, List.not_mem_nil, or_false] at hd
  rcases hd with rfl | rfl | rfl | rfl | rfl | rfl | rfl | rfl | rfl | rfl | rfl | rfl | rfl <;> kernel_rfl
theorem lib_def {n : ByteArray} (h : isLib n) : ∃ d ∈ libDefs, d.name = n := by
  have hm := lib_mem h
  rw [← libDefs_names] at hm
  obtain ⟨d, hd, rfl⟩ := List.mem_map.1 hm
  exact ⟨d, hd, rfl⟩
theorem libText_no {n : ByteArray} (h : ¬ isLib n) : libTextP n = ⟨#[]⟩ := by
  unfold libTextP
  cases hf : libDefs.find? fun d => eqS d.name n with
  | none => rfl
  | some d =>
    have h1 := List.find?_some hf
    have h2 := List.mem_of_find?_eq_some hf
    exact absurd (by rw [← eqS_iff.1 h1]; exact libs_lib _ (defs_lib h2)) h
theorem implText_rec {n : ByteArray} (h : isLib n) (ho : ownT n = true) : recText n (cutA (libFunP n)) (cutB (libFunP n)) = libTextP n := by
  obtain ⟨d, hd, rfl⟩ := lib_def h
  have hr : d.rec_ = true := by rw [← own_eq d hd]; exact ho
  obtain ⟨h1, h2⟩ := cut_eq d hd hr
  unfold libTextP defText
  rw [find_eq d hd, h1, h2]
  dsimp only
  rw [if_pos hr]
theorem implText_val {n : ByteArray} (h : isLib n) (ho : ownT n = false) : valText n (libFunP n) = libTextP n := by
  obtain ⟨d, hd, rfl⟩ := lib_def h
  have hr : d.rec_ = false := by rw [← own_eq d hd]; exact ho
  unfold libTextP defText
  rw [find_eq d hd]
  dsimp only
  rw [if_neg (by rw [hr]; simp), fun_eq d hd]
  unfold valText funText
  rw [show (⟨#[32, 61, 32, 102, 117, 110, 32]⟩ : ByteArray) = (⟨#[32, 61, 32]⟩ : ByteArray) ++ ⟨#[102, 117, 110, 32]⟩ from rfl]
  simp only [ByteArray.append_assoc]

set_option maxRecDepth 100000 in
set_option maxHeartbeats 8000000 in
theorem implLibText_c (n : ByteArray) (m : Int) (w : World) (hm : w.cell? ⟨0, 0, none⟩ = some (.int .i64 m)) :
    Calls Tryz.prog 13 #[.string n] w fun e w' => e = .returned (.string (libTextP n)) ∧ Below w.heap.size w w' := by
  have cF := fun W => libFun_c n W
  by_cases hl : isLib n
  · obtain ⟨x, hx⟩ := libFun_some hl
    have hTL := treeL_out (libFun_len n |> fun h => by omega) hx
    have cU : ∀ W, Calls Tryz.prog 20 #[.string n] W fun e w' => ∃ a k c, e = .returned (.tuple #[.slice a k c, .bool (ownT n)]) ∧ Below W.heap.size W w' := fun W => (libUses_c n x hTL W).mono fun e w' ⟨v, he, hO, hb⟩ => by
      obtain ⟨a, c, rfl⟩ := hO.form
      exact ⟨a, _, c, by rw [he]; unfold ownT; rw [hx], hb⟩
    have hne : ((libFunP n).toList == []) = false := by
      cases h : (libFunP n).toList == [] with
      | false => rfl
      | true => exact absurd (eqS_iff.1 (by unfold eqS; rw [← ByteArray.toList_eq]; exact h)) hl
    have hR := implText_rec hl
    have hV := implText_val hl
    obtain ⟨d, hd, hdn⟩ := lib_def hl
    have hs1 := (sizes_eq d hd).1
    rw [hdn] at hs1
    have hs2 := libFun_len n
    have cT := fun W => Tz.strings_TrimPrefix (libFunP n) ⟨#[102, 117, 110, 32]⟩ W
    have cC := fun s W (h1 : s.size < 4294967281) (h : W.cell? ⟨0, 0, none⟩ = some (.int .i64 m)) => Tz.strings_Cut s ⟨#[32, 45, 62, 32]⟩ m W h1 h
    have hA : ownT n = true → (cutA (libFunP n)).size ≤ 5 ∧ (cutB (libFunP n)).size ≤ 100 := fun ho => by
      have hr : d.rec_ = true := by rw [← own_eq d hd, hdn]; exact ho
      obtain ⟨h1, h2⟩ := cut_eq d hd hr
      obtain ⟨-, h3, h4⟩ := sizes_eq d hd
      rw [hdn] at h1 h2
      rw [h1, h2]; exact ⟨h3, h4⟩
    have hts : (Lib.trimPrefix (libFunP n).data.toList [102, 117, 110, 32]).length ≤ 200 := by
      have : (Lib.trimPrefix (libFunP n).data.toList [102, 117, 110, 32]).length ≤ (libFunP n).data.toList.length := by
        unfold Lib.trimPrefix
        split
        · rw [List.length_drop]; omega
        · exact Nat.le_refl _
      rw [Array.length_toList] at this
      exact Nat.le_trans this hs2
    have eA : (⟨(Lib.cut (Lib.trimPrefix (libFunP n).data.toList [102, 117, 110, 32]) [32, 45, 62, 32]).1.toArray⟩ : ByteArray) = cutA (libFunP n) := rfl
    have eB : (⟨(Lib.cut (Lib.trimPrefix (libFunP n).data.toList [102, 117, 110, 32]) [32, 45, 62, 32]).2.1.toArray⟩ : ByteArray) = cutB (libFunP n) := rfl
    have cT2 : ∀ W, Calls Tryz.prog 26 #[.string (libFunP n), .string ⟨#[102, 117, 110, 32]⟩] W fun e w' => e = .returned (.string ⟨(Lib.trimPrefix (libFunP n).data.toList [102, 117, 110, 32]).toArray⟩) ∧ w' = W := fun W => cT W
    have cC2 : ∀ W, W.cell? ⟨0, 0, none⟩ = some (.int .i64 m) → Calls Tryz.prog 25 #[.string ⟨(Lib.trimPrefix (libFunP n).data.toList [102, 117, 110, 32]).toArray⟩, .string ⟨#[32, 45, 62, 32]⟩] W fun e w' => ∃ q : Bool, e = .returned (.tuple #[.string (cutA (libFunP n)), .string (cutB (libFunP n)), .bool q]) ∧ Below W.heap.size W w' := fun W h =>
      (cC ⟨(Lib.trimPrefix (libFunP n).data.toList [102, 117, 110, 32]).toArray⟩ W (by show (Lib.trimPrefix (libFunP n).data.toList [102, 117, 110, 32]).toArray.size < _; rw [List.size_toArray]; omega) h).mono fun e w' ⟨he, k, hk⟩ => ⟨_, he, by rw [hk]; exact ⟨rfl, rfl, rfl, Nat.le_refl _, fun _ _ => rfl⟩⟩
    clear cT cC eA eB hx hTL
    generalize (⟨(Lib.trimPrefix (libFunP n).data.toList [102, 117, 110, 32]).toArray⟩ : ByteArray) = tp at *
    generalize cutA (libFunP n) = pa at *
    generalize cutB (libFunP n) = pb at *
    generalize libFunP n = f at *
    generalize libTextP n = res at *
    obtain ⟨ow, how⟩ : ∃ q, ownT n = q := ⟨_, rfl⟩
    rw [how] at cU hR hV hA
    clear hts hdn how
    replace cF := Lib.hid cF; replace cU := Lib.hid cU; replace cT2 := Lib.hid cT2; replace cC2 := Lib.hid cC2
    have hcell : ∀ W, Below w.heap.size w W → W.cell? ⟨0, 0, none⟩ = some (.int .i64 m) := fun W hW => cell_below hW hm
    replace hcell := Lib.hid hcell
    cases ow
    · have hv := Lib.hid (hV rfl)
      have l1 : (9223372036854775807 < 4 + n.size) = False := by simp; omega
      have l2 : (9223372036854775807 < 4 + n.size + 3) = False := by simp; omega
      have l3 : (9223372036854775807 < 4 + n.size + 3 + f.size) = False := by simp; omega
      have l4 : (9223372036854775807 < 4 + n.size + 3 + f.size + 4) = False := by simp; omega
      clear hR hA hm
      go_enter Tryz.func13, Tryz.ntmps13
      go_wp2_with (first
        | (go_at_call 19; (with_reducible refine (cF.out _).mono ?_); rintro e w1 ⟨rfl, hb1⟩)
        | (go_at_call 20; (with_reducible refine (cU.out _).mono ?_); rintro e w2 ⟨ua, uk, uc, rfl, hb2⟩))
      go_returns
      exact ⟨by rw [← hv.out]; rfl, hb1.trans (hb2.mono hb1.size)⟩
    · have hv := Lib.hid (hR rfl)
      obtain ⟨ha, hb⟩ := hA rfl
      have l1 : (9223372036854775807 < 8 + n.size) = False := by simp; omega
      have l2 : (9223372036854775807 < 8 + n.size + 1) = False := by simp; omega
      have l3 : (9223372036854775807 < 8 + n.size + 1 + pa.size) = False := by simp; omega
      have l4 : (9223372036854775807 < 8 + n.size + 1 + pa.size + 3) = False := by simp; omega
      have l5 : (9223372036854775807 < 8 + n.size + 1 + pa.size + 3 + pb.size) = False := by simp; omega
      have l6 : (9223372036854775807 < 8 + n.size + 1 + pa.size + 3 + pb.size + 4) = False := by simp; omega
      clear hV hA hm
      go_enter Tryz.func13, Tryz.ntmps13
      go_wp2_with (first
        | (go_at_call 19; (with_reducible refine (cF.out _).mono ?_); rintro e w1 ⟨rfl, hb1⟩)
        | (go_at_call 20; (with_reducible refine (cU.out _).mono ?_); rintro e w2 ⟨ua, uk, uc, rfl, hb2⟩; have hw2 := hb1.trans (hb2.mono hb1.size))
        | (go_at_call 26; (with_reducible refine (cT2.out _).mono ?_); rintro e w3 ⟨rfl, rfl⟩)
        | (go_at_call 25; (with_reducible refine (cC2.out _ (hcell.out _ hw2)).mono ?_); rintro e w4 ⟨q, rfl, hb4⟩))
      go_returns
      exact ⟨by rw [← hv.out]; rfl, hw2.trans (hb4.mono hw2.size)⟩
  · have hT := libText_no hl
    have he : libFunP n = ⟨#[]⟩ := Classical.not_not.1 hl
    rw [hT]
    rw [he] at cF
    replace cF := Lib.hid cF
    clear hT he hl
    go_enter Tryz.func13, Tryz.ntmps13
    go_wp2_with (go_at_call 19; (with_reducible refine (cF.out _).mono ?_); rintro e w1 ⟨rfl, hb1⟩)
    go_returns
    exact ⟨rfl, hb1⟩
end Go.Proofs.YtcjoheplilaccaaGreat

/- The reference's LibText. -/
namespace Go.Proofs.YtcjoheplilaccaaGreat
open Go.RowKit
set_option linter.unusedVariables false
set_option linter.unusedSimpArgs false
attribute [local go_sem] Ext.cell

theorem find_at {n : ByteArray} {k : Nat} {d : GDef} (hd : libDefs[k]? = some d) (he : eqS d.name n = true) : libTextP n = defText d := by
  have hdn := eqS_iff.1 he
  have hm := List.mem_of_getElem? hd
  unfold libTextP
  rw [← hdn, find_eq d hm]
theorem findDef_none {n : ByteArray} (h : ∀ i d, i < 13 → libDefs[i]? = some d → eqS d.name n = false) : libTextP n = ⟨#[]⟩ := by
  unfold libTextP
  rw [List.find?_eq_none.2]
  intro d hd he
  obtain ⟨i, hi, rfl⟩ := List.getElem_of_mem hd
  have := h i _ hi (List.getElem?_eq_getElem hi)
  rw [this] at he
  cases he

set_option maxRecDepth 100000 in
set_option maxHeartbeats 8000000 in
theorem specLibText_c (n : ByteArray) (w : World) :
    Calls Tryz.prog 12 #[.string n] w fun e w' => e = .returned (.string (libTextP n)) ∧ Below w.heap.size w w' := by
  have hfind : ∀ k d, libDefs[k]? = some d → eqS d.name n = true → libTextP n = defText d := fun k d h1 h2 => find_at h1 h2
  have hnone := @findDef_none n
  generalize libTextP n = res at *
  replace hfind := Lib.hid hfind; replace hnone := Lib.hid @hnone
  go_enter Tryz.func12, Tryz.ntmps12
  go_wp2_with (go_at_call 14; (with_reducible refine (l22DefsF_c _).mono ?_); rintro e w5 ⟨b5, rfl, hb5a, hb5b, hD5, hb5⟩)
  replace hD5 := Lib.hid hD5
  go_loopw [7] (fun ii wr => ∃ k : Nat, k ≤ 13 ∧ ii = .int .i64 k ∧ Hid (∀ i d, i < k → libDefs[i]? = some d → eqS d.name n = false) ∧ Hid (Below w5.heap.size w5 wr)) (fun ii _ => 13 - (intOf ii).toNat)
  case atStart => exact ⟨0, by omega, rfl, Lib.hid (fun i d h => by omega), Lib.hid (Below.refl _ _)⟩
  case round =>
    obtain ⟨k, hk, rfl, hF, hB⟩ := hrel
    have hwr := hb5.trans (hB.out.mono hb5.size)
    by_cases hlt : k < 13
    · obtain ⟨d, hd⟩ : ∃ d, libDefs[k]? = some d := ⟨_, List.getElem?_eq_getElem (show k < libDefs.length from hlt)⟩
      have hdm := List.mem_of_getElem? hd
      obtain ⟨da, dc, hdr, -⟩ := (hD5.out k d hd).below hB.out
      obtain ⟨s1, s2, s3⟩ := sizes_eq d hdm
      have hfd := fun h => hfind.out k d hd h
      have hnx : eqS d.name n = false → ∀ i e, i < k + 1 → libDefs[i]? = some e → eqS e.name n = false := fun h i e hi he => by
        rcases Nat.lt_or_ge i k with h1 | h1
        · exact hF.out i e h1 he
        · obtain rfl : i = k := by omega
          rw [hd] at he
          obtain rfl := Option.some.inj he
          exact h
      have hsz : eqS d.name n = true → n.size ≤ 5 := fun h => by rw [← eqS_iff.1 h]; exact s1
      have hnn : eqS d.name n = true → d.name = n := fun h => eqS_iff.1 h
      have cc : (d.name.toList == n.toList) = eqS d.name n := eqS_list d.name n
      unfold defText at hfd
      obtain ⟨nm, ar, bo, us, rc⟩ := d
      dsimp only at hdr s1 s2 s3 hfd hnx hsz hnn cc
      obtain ⟨e_0, e_1, e_2, e_3, e_4⟩ : wr.cell? ⟨b5, k * 5, none⟩ = some (.string nm) ∧ wr.cell? ⟨b5, k * 5 + 1, none⟩ = some (.string ar) ∧ wr.cell? ⟨b5, k * 5 + 2, none⟩ = some (.string bo) ∧ wr.cell? ⟨b5, k * 5 + 3, none⟩ = some (.slice da us.length dc) ∧ wr.cell? ⟨b5, k * 5 + 4, none⟩ = some (.bool rc) := ⟨hdr 0 _ rfl, hdr 1 _ rfl, hdr 2 _ rfl, hdr 3 _ rfl, hdr 4 _ rfl⟩
      have hbb5 := World.block_lt_of_cell? _ _ e_0; dsimp only at hbb5
      obtain ⟨q, hq⟩ : ∃ q, eqS nm n = q := ⟨_, rfl⟩
      rw [hq] at cc hfd hnx hsz hnn
      clear hq hdr
      generalize us.length = ul at *
      replace hd := Lib.hid hd; replace hdm := Lib.hid hdm; replace hnx := Lib.hid hnx; replace hfd := Lib.hid hfd; replace hnn := Lib.hid hnn
      cases q
      · clear hfd hnn hsz
        go_wp2_with fail
        go_roundw
        case rel => exact ⟨k + 1, by omega, by go_num, Lib.hid (hnx.out rfl), Lib.hid (hB.out.trans (Below.mono (by go_grown) hB.out.size))⟩
        case measure => simp [intOf]; omega
      · have hn5 := hsz rfl
        have hres := hfd.out rfl
        have hnm := hnn.out rfl
        clear hfd hnx hsz hnn
        cases rc
        · rw [if_neg (by simp)] at hres
          unfold funText at hres
          rw [hnm] at hres
          replace hres := Lib.hid hres; replace hnm := Lib.hid hnm
          have l1 : (9223372036854775807 < 4 + n.size) = False := by simp; omega
          have l2 : (9223372036854775807 < 4 + n.size + 7) = False := by simp; omega
          have l3 : (9223372036854775807 < 4 + n.size + 7 + ar.size) = False := by simp; omega
          have l4 : (9223372036854775807 < 4 + n.size + 7 + ar.size + 4) = False := by simp; omega
          have l5 : (9223372036854775807 < 4 + n.size + 7 + ar.size + 4 + bo.size) = False := by simp; omega
          have l6 : (9223372036854775807 < 4 + n.size + 7 + ar.size + 4 + bo.size + 4) = False := by simp; omega
          go_wp2_with fail
          go_returns
          exact ⟨by rw [hres.out]; rfl, hwr.trans (Below.mono (by go_grown) hwr.size)⟩
        · rw [if_pos rfl] at hres
          unfold recText at hres
          rw [hnm] at hres
          replace hres := Lib.hid hres; replace hnm := Lib.hid hnm
          have l1 : (9223372036854775807 < 8 + n.size) = False := by simp; omega
          have l2 : (9223372036854775807 < 8 + n.size + 1) = False := by simp; omega
          have l3 : (9223372036854775807 < 8 + n.size + 1 + ar.size) = False := by simp; omega
          have l4 : (9223372036854775807 < 8 + n.size + 1 + ar.size + 3) = False := by simp; omega
          have l5 : (9223372036854775807 < 8 + n.size + 1 + ar.size + 3 + bo.size) = False := by simp; omega
          have l6 : (9223372036854775807 < 8 + n.size + 1 + ar.size + 3 + bo.size + 4) = False := by simp; omega
          go_wp2_with fail
          go_returns
          exact ⟨by rw [hres.out]; rfl, hwr.trans (Below.mono (by go_grown) hwr.size)⟩
    · obtain rfl : k = 13 := by omega
      have hres := Lib.hid (hnone.out hF.out)
      go_wp2_with fail
      go_returns
      exact ⟨by rw [hres.out]; rfl, hwr⟩
end Go.Proofs.YtcjoheplilaccaaGreat

/- The law LibText: the walk. -/
namespace Go.Proofs.YtcjoheplilaccaaGreat
open Go.RowKit
set_option linter.unusedVariables false
set_option linter.unusedSimpArgs false
attribute [local go_sem] Ext.cell

namespace fnExactLibText
set_option maxRecDepth 100000 in
set_option maxHeartbeats 4000000 in
theorem law (x0 : ByteArray) (m : Int) (w : World) (hm : w.cell? ⟨0, 0, none⟩ = some (.int .i64 m)) :
    Calls Tryz.prog 4 #[.string x0] w fun en w' => en = .returned (.bool true) ∧ Below w.heap.size w w' := by
  by_cases hlong : (1048576 : Int) < x0.size
  · go_enter Tryz.func4, Tryz.ntmps4
    go_wp2
    go_returns
    exact ⟨rfl, by go_grown⟩
  have cS := Lib.hid (specLibText_c x0)
  have cI := Lib.hid (fun W hW => implLibText_c x0 m W hW)
  have hne : (libTextP x0).toList == (libTextP x0).toList := by simp
  have hcell : ∀ W, Below w.heap.size w W → W.cell? ⟨0, 0, none⟩ = some (.int .i64 m) := fun W hW => cell_below hW hm
  generalize libTextP x0 = res at *
  replace hcell := Lib.hid hcell
  clear hm
  go_enter Tryz.func4, Tryz.ntmps4
  go_wp2_with (first
    | (go_at_call 12; (with_reducible refine (cS.out _).mono ?_); rintro e w1 ⟨rfl, hb1⟩)
    | (go_at_call 13; (with_reducible refine (cI.out _ (hcell.out _ hb1)).mono ?_); rintro e w2 ⟨rfl, hb2⟩))
  go_returns
  exact ⟨rfl, hb1.trans (hb2.mono hb1.size)⟩
end fnExactLibText
end Go.Proofs.YtcjoheplilaccaaGreat

/- From the form's own reading of an argument to ours. -/
namespace Go.Proofs.YtcjoheplilaccaaGreat
open Go.RowKit
set_option linter.unusedVariables false

def Opens {α : Type} (P : Program) (t : TypeId) (R : Reading α) : Prop := ∀ (H : Type) (enc : TypeId × Value → H) (w : World) (spare : Nat → Bool) (held : Bool) (fuel : Nat) (cs : List Value) (x : DataW H × List MemPlace),
  DataW.trod enc P w 0 spare held fuel t cs = some x → ∃ y, R 0 w cs y

def SlR {α : Type} (R : Reading α) (sz : Nat) : Reading (List α) := fun lo w r xs => ∃ v, r = [v] ∧ Sl R sz lo w v xs

theorem opens_int {P : Program} {t : TypeId} (ht : P.underlying t = some (.int .i64)) : Opens P t IntR := by
  intro H enc w spare held fuel cs x h
  obtain ⟨n, rfl, _, hw⟩ := DataW.trod_int ht h
  exact ⟨n, rfl, bounds_i64 hw⟩

theorem opens_string {P : Program} {t : TypeId} (ht : P.underlying t = some .string) : Opens P t StrR := by
  intro H enc w spare held fuel cs x h
  obtain ⟨n, rfl, _, hw⟩ := DataW.trod_string ht h
  exact ⟨n, rfl, by unfold StrOk; unfold maxLen at hw; omega⟩

theorem opens_bool {P : Program} {t : TypeId} (ht : P.underlying t = some .bool) : Opens P t BoolR := by
  intro H enc w spare held fuel cs x h
  obtain ⟨n, rfl, _⟩ := DataW.trod_bool ht h
  exact ⟨n, rfl⟩

theorem opens_byte {P : Program} {t : TypeId} (ht : P.underlying t = some (.int .u8)) : Opens P t ByteR := by
  intro H enc w spare held fuel cs x h
  obtain ⟨n, rfl, _, hw⟩ := DataW.trod_int ht h
  have hb := bounds_u8 hw
  exact ⟨UInt8.ofNat n.toNat, by
    have h1 : (UInt8.ofNat n.toNat).toNat = n.toNat := by
      rw [UInt8.toNat_ofNat']; exact Nat.mod_eq_of_lt (by omega)
    show [Value.int .u8 n] = _
    rw [h1, Int.toNat_of_nonneg hb.1]⟩

theorem list_of {α : Type} {p : Nat → α → Prop} : ∀ (n : Nat), (∀ i, i < n → ∃ y, p i y) → ∃ l : List α, l.length = n ∧ ∀ i y, l[i]? = some y → p i y
  | 0, _ => ⟨[], rfl, fun i y h => by simp at h⟩
  | n + 1, h => by
    obtain ⟨l, hl, hp⟩ := list_of n (fun i hi => h i (by omega))
    obtain ⟨y, hy⟩ := h n (by omega)
    refine ⟨l ++ [y], by simp [hl], fun i z hz => ?_⟩
    rcases Nat.lt_trichotomy i n with hi | hi | hi
    · rw [List.getElem?_append_left (by omega)] at hz
      exact hp i z hz
    · subst hi
      rw [List.getElem?_append_right (by omega), hl] at hz
      simp at hz
      exact hz ▸ hy
    · rw [List.getElem?_eq_none (by simp; omega)] at hz
      cases hz

theorem add_none (b off n : Nat) : (⟨b, off, none⟩ : Addr).add n = ⟨b, off + n, none⟩ := by
  unfold Addr.add
  split
  · subst_vars; rfl
  · rfl

theorem opens_slice {α : Type} {P : Program} {t e : TypeId} {R : Reading α} {sz : Nat} (ht : P.underlying t = some (.slice e)) (hc : P.cellsOf e = sz) (hsz : 0 < sz) (hO : Opens P e R) : Opens P t (SlR R sz) := by
  intro H enc w spare held fuel cs x h
  rcases Deep.open_slice ht h with ⟨rfl, _⟩ | ⟨a, len, cap, m, n, D, Pl, rfl, _, hl, hm, hmm, _, hel⟩
  · exact ⟨[], _, rfl, Sl.nil⟩
  have hlm : len ≤ m := by rw [hmm]; split <;> omega
  rw [hc] at hel
  obtain ⟨xs, hxl, hxs⟩ := list_of (p := fun i y => ∃ cs', w.cells? 0 (a.add (i * sz)) sz = some cs' ∧ R 0 w cs' y) len (fun i hi => by
    obtain ⟨cs', h1, h2⟩ := hel i (by omega)
    obtain ⟨y, hy⟩ := hO H enc w spare held n cs' _ h2
    exact ⟨y, cs', h1, hy⟩)
  subst hxl
  refine ⟨xs, _, rfl, some a, cap, rfl, hl, by unfold maxLen at hm; omega, fun hne => ?_⟩
  have hspot : a.spot = none := by
    obtain ⟨cs', h1, _⟩ := hxs 0 xs[0] (by simp)
    obtain ⟨_, h3, h4⟩ := World.cells?_some h1
    have h5 := h4 0 (by omega)
    have h6 : ∃ v, w.cell? (a.add (0 * sz) |>.add 0) = some v := by
      obtain ⟨v, hv⟩ : ∃ v, cs'[0]? = some v := ⟨cs'[0]'(by omega), by simp⟩
      exact ⟨v, by rw [h5, hv]⟩
    obtain ⟨v, hv⟩ := h6
    have h7 := World.cell?_spot hv
    simpa [Addr.add] using h7
  obtain ⟨b, off, sp⟩ := a
  simp only at hspot
  subst hspot
  refine ⟨b, off, Nat.zero_le _, rfl, fun i y hy => ?_⟩
  obtain ⟨cs', h1, h2⟩ := hxs i y hy
  obtain ⟨_, h3, h4⟩ := World.cells?_some h1
  refine ⟨cs', h2, fun j c hjc => ?_⟩
  have hj : j < sz := by
    have := (List.getElem?_eq_some_iff.1 hjc).1
    omega
  have h5 := h4 j hj
  rw [add_none, add_none] at h5
  rw [h5, hjc]

theorem list_len1 {α : Type} {l : List α} (h : l.length = 1) : ∃ a, l = [a] := by
  match l, h with | [a], _ => exact ⟨a, rfl⟩
theorem list_len2 {α : Type} {l : List α} (h : l.length = 2) : ∃ a b, l = [a, b] := by
  match l, h with | [a, b], _ => exact ⟨a, b, rfl⟩
theorem list_len3 {α : Type} {l : List α} (h : l.length = 3) : ∃ a b c, l = [a, b, c] := by
  match l, h with | [a, b, c], _ => exact ⟨a, b, c, rfl⟩
theorem list_len4 {α : Type} {l : List α} (h : l.length = 4) : ∃ a b c d, l = [a, b, c, d] := by
  match l, h with | [a, b, c, d], _ => exact ⟨a, b, c, d, rfl⟩
theorem list_len6 {α : Type} {l : List α} (h : l.length = 6) : ∃ a b c d e f, l = [a, b, c, d, e, f] := by
  match l, h with | [a, b, c, d, e, f], _ => exact ⟨a, b, c, d, e, f, rfl⟩
theorem list_len9 {α : Type} {l : List α} (h : l.length = 9) : ∃ a b c d e f g i j, l = [a, b, c, d, e, f, g, i, j] := by
  match l, h with | [a, b, c, d, e, f, g, i, j], _ => exact ⟨a, b, c, d, e, f, g, i, j, rfl⟩

/-- A struct argument. -/
theorem open_struct {α : Type} {H : Type} {enc : TypeId × Value → H} {P : Program} {t : TypeId} {fs : Array Field} {R : Reading α} {w : World} {base : Nat} {v : Value} {d : DataW H} {spare : Nat → Bool} {held : Bool} {ps : List MemPlace}
    (hs : P.underlying t = some (.struct fs)) (hO : Opens P t R) (hv : Value.okWide P w .any base t v) (h : DataW.Trod enc P w 0 spare held t v d ps) : ∃ r x, v = .agg r.toArray ∧ R 0 w r x := by
  unfold Value.okWide at hv
  rw [hs] at hv
  obtain ⟨cs, rfl, _, _⟩ := hv
  obtain ⟨fuel, hf⟩ := h
  obtain ⟨x, hx⟩ := hO H enc w spare held fuel _ _ hf
  exact ⟨cs.toList, x, by simp, hx⟩

/-- A slice argument. -/
theorem open_slice_arg {α : Type} {H : Type} {enc : TypeId × Value → H} {P : Program} {t e : TypeId} {R : Reading α} {sz : Nat} {w : World} {base : Nat} {v : Value} {d : DataW H} {spare : Nat → Bool} {held : Bool} {ps : List MemPlace}
    (hs : P.underlying t = some (.slice e)) (hO : Opens P t (SlR R sz)) (hv : Value.okWide P w .any base t v) (h : DataW.Trod enc P w 0 spare held t v d ps) : ∃ xs, Sl R sz 0 w v xs := by
  obtain ⟨a, len, cap, rfl⟩ := Go.WideShapes.okWide_slice hs hv
  obtain ⟨fuel, hf⟩ := h
  obtain ⟨xs, u, hu, hx⟩ := hO H enc w spare held fuel _ _ hf
  simp [Value.cells] at hu
  subst hu
  exact ⟨xs, hx⟩

end Go.Proofs.YtcjoheplilaccaaGreat

/- How the laws' arguments open. Printed by gen_open.py. -/
namespace Go.Proofs.YtcjoheplilaccaaGreat
open Go.RowKit
set_option linter.unusedVariables false
set_option linter.unusedSimpArgs false

theorem opens_int_ : Opens Tryz.prog 3 IntR := opens_int Tryz.underlying3
theorem cells_int : Tryz.prog.cellsOf 3 = 1 := by kernel_rfl

theorem cells_S_int : Tryz.prog.cellsOf 56 = 1 := by kernel_rfl
theorem opens_S_int : Opens Tryz.prog 56 (SlR IntR 1) := opens_slice Tryz.underlying56 cells_int (by decide) opens_int_

theorem opens_str_ : Opens Tryz.prog 9 StrR := opens_string Tryz.underlying9
theorem cells_str : Tryz.prog.cellsOf 9 = 1 := by kernel_rfl

theorem cells_S_str : Tryz.prog.cellsOf 22 = 1 := by kernel_rfl
theorem opens_S_str : Opens Tryz.prog 22 (SlR StrR 1) := opens_slice Tryz.underlying22 cells_str (by decide) opens_str_

end Go.Proofs.YtcjoheplilaccaaGreat
