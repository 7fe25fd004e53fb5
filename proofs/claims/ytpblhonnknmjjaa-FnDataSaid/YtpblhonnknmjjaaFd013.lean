/- Parts of the proof, merged: Lay, Read3. -/
import Derived.Deep.RegionHeld3
import Derived.Deep.RegionLaw
import Derived.Test.YtpblhonnknmjjaaFd012
/- The reference's l07Lay: a tree laid into a list of nodes. -/
namespace Go.Proofs.Ytpblhonnknmjjaa
open Go.RowKit
set_option linter.unusedVariables false
set_option linter.unusedSimpArgs false
attribute [local go_sem] Ext.cell

/-- The children's places, and the nodes behind. -/
def layK (L : Nat → PxT → List GDNode) : Nat → List PxT → List Int × List GDNode
  | _, [] => ([], [])
  | nx, k :: ks => ((nx : Int) :: (layK L (nx + (L nx k).length) ks).1, L nx k ++ (layK L (nx + (L nx k).length) ks).2)
def layT : Nat → Nat → PxT → List GDNode
  | 0, _, _ => []
  | f + 1, at_, t => ⟨t.kind, t.n, t.s, (layK (layT f) (at_ + 1) t.kids).1⟩ :: (layK (layT f) (at_ + 1) t.kids).2
theorem layK_snoc (L : Nat → PxT → List GDNode) : ∀ (ks : List PxT) (nx : Nat) (k : PxT), layK L nx (ks ++ [k]) =
    ((layK L nx ks).1 ++ [((nx + (layK L nx ks).2.length : Nat) : Int)], (layK L nx ks).2 ++ L (nx + (layK L nx ks).2.length) k)
  | [], nx, k => by simp [layK]
  | c :: ks, nx, k => by
    have ih := layK_snoc L ks (nx + (L nx c).length) k
    simp only [List.cons_append, layK, ih, List.length_append, Nat.add_assoc, List.append_assoc]
theorem layK_len (L : Nat → PxT → List GDNode) : ∀ (ks : List PxT) (nx : Nat), (layK L nx ks).1.length = ks.length
  | [], nx => rfl
  | c :: ks, nx => by simp [layK, layK_len L ks]
/-- How much a tree lays. -/
def szT : Nat → PxT → Nat
  | 0, _ => 0
  | f + 1, t => 1 + t.kids.length + (t.kids.map (szT f)).sum
theorem sum_take_nat {α : Type} (f : α → Nat) (l : List α) (k : Nat) : ((l.take k).map f).sum ≤ (l.map f).sum := by
  conv => rhs; rw [← List.take_append_drop k l]
  rw [List.map_append, List.sum_append]
  omega
theorem layK_le {L : Nat → PxT → List GDNode} {z : PxT → Nat} (h : ∀ nx k, (L nx k).length ≤ z k) : ∀ (ks : List PxT) (nx : Nat), (layK L nx ks).2.length ≤ (ks.map z).sum
  | [], nx => by simp [layK]
  | c :: ks, nx => by
    have h1 := layK_le h ks (nx + (L nx c).length)
    have h2 := h nx c
    simp [layK]
    omega
theorem layT_le : ∀ (f at_ : Nat) (t : PxT), (layT f at_ t).length ≤ szT f t
  | 0, at_, t => by simp [layT]
  | f + 1, at_, t => by
    have := layK_le (L := layT f) (z := szT f) (fun nx k => layT_le f nx k) t.kids (at_ + 1)
    simp only [layT, szT, List.length_cons]
    omega

def LayPost (A : Nat → Prop) (lo : Nat) (w : World) (ps : List DRow) (l : List GDNode) (e : Ending) (w' : World) : Prop :=
  ∃ v' ps', e = .returned v' ∧ OwnD A 44 lo w' v' ps' ∧ ps'.map (·.1) = ps.map (·.1) ++ l ∧ Below lo w w' ∧ Kept (fun q => ¬ A q) w w'

/-- A node more, in place or in a new block. -/
theorem OwnD.push {A : Nat → Prop} {T : TypeId} {lo : Nat} {w w1 w2 : World} {v : Value} {ps : List DRow} {p : DRow} {g n cap : Nat} (h : OwnD A T lo w v ps) (hb : Below w.heap.size w w1) (hg : w1.grownBy w2 v.ownBlock)
    (hown : w2.ownsRow lo T 4 (.slice (some ⟨g, 0, none⟩) n cap) n (rowsOf drow ps ++ drow p)) (hn : n = ps.length + 1) (hat : v.ownBlock = some g ∨ g = w1.heap.size) (hp : dwf p) (hk : p.1.kids = []) (hk2 : p.2.1 = none) (hk3 : p.2.2 = 0) (hA : ∀ q, A q → q < w1.heap.size) :
    OwnD A T lo w2 (.slice (some ⟨g, 0, none⟩) n cap) (ps ++ [p]) := by
  have hs := hb.size
  have hK : Kept (fun k => some k = v.ownBlock) w w2 := kept_of hg hb
  refine ⟨⟨?_, fun x hx => ?_⟩, fun q hq => ?_, fun q hq ha => ?_⟩
  · rw [List.length_append, rowsOf_append, rowsOf_one]
    subst hn
    exact hown
  · rcases List.mem_append.1 hx with h1 | h1
    · exact h.own.2 x h1
    · simp at h1; subst h1; exact hp
  · rcases List.mem_append.1 hq with h1 | h1
    · obtain ⟨h2, h3⟩ := h.kids q h1
      refine ⟨sl_kept flatInt h2 hK fun b hb' e => (h3 b hb').1.1 e.symm, fun b hb' => ⟨⟨fun e => ?_, (h3 b hb').1.2⟩, Nat.lt_of_lt_of_le (h3 b hb').2 (Nat.le_trans hs hg.size)⟩⟩
      obtain rfl : g = b := by simpa [Value.ownBlock] using e
      rcases hat with h4 | h4
      · exact (h3 g hb').1.1 h4
      · have := (h3 g hb').2; omega
    · simp at h1
      subst h1
      have e : kidsV q = .slice none 0 0 := by unfold kidsV; rw [hk, hk2, hk3]; rfl
      rw [e, hk]
      exact ⟨Sl.nil, fun b hb' => by cases hb'⟩
  · obtain rfl : g = q := by simpa [Value.ownBlock] using hq
    rcases hat with h4 | h4
    · exact h.out g h4 ha
    · have := hA g ha; omega

theorem PV.form {f : Nat} {S : Nat → Prop} {w : World} {r : List Value} {t : PxT} (h : PV f S w r t) : ∃ a cap, r = [.int .i64 t.kind, .int .i64 t.n, .string t.s, .slice a t.kids.length cap] := by
  cases f with
  | zero => exact absurd h (by simp [PV])
  | succ f => obtain ⟨a, c, h, _⟩ := h; exact ⟨a, c, h⟩
theorem info_DNode : (Try.prog.info? 44).map (fun i => (i.zero, i.size, i.bytes)) = some (some (.agg #[.int .i64 0, .int .i64 0, .string ⟨#[]⟩, .slice none 0 0]), 4, 56) := by kernel_rfl
theorem info_intL : (Try.prog.info? 3).map (fun i => (i.zero, i.size, i.bytes)) = some (some (.int .i64 0), 1, 8) := by kernel_rfl

set_option maxRecDepth 100000 in
set_option maxHeartbeats 8000000 in
theorem l07Lay_c : ∀ (f : Nat) (t : PxT) (A : Nat → Prop) (v : Value) (r : List Value) (ps : List DRow) (lo : Nat) (w : World), PV f A w r t → OwnD A 44 lo w v ps → lo ≤ w.heap.size → (∀ q, A q → q < w.heap.size) → ps.length + szT f t ≤ 16777216 →
    Calls Try.prog 33 #[v, .agg r.toArray] w (LayPost A lo w ps (layT f ps.length t))
  | 0, t, A, v, r, ps, lo, w, h, _, _, _, _ => absurd h (by simp [PV])
  | f + 1, t, A, v, r, ps, lo, w, h, hO, hlo, hA, hsz => by
    have ih := l07Lay_c f
    obtain ⟨ka, kc, rfl, hwf, kl, km, hk⟩ := h
    obtain ⟨kd, nn, s, ks⟩ := t
    simp only [PxT.kind, PxT.n, PxT.s, PxT.kids] at *
    have hlay : layT (f + 1) ps.length (.mk kd nn s ks) = ⟨kd, nn, s, (layK (layT f) (ps.length + 1) ks).1⟩ :: (layK (layT f) (ps.length + 1) ks).2 := rfl
    have hszT : szT (f + 1) (.mk kd nn s ks) = 1 + ks.length + (ks.map (szT f)).sum := rfl
    rw [hszT] at hsz
    obtain ⟨m, hm⟩ : ∃ m, m = ks.length := ⟨_, rfl⟩
    rw [← hm] at kl hk hsz ⊢
    obtain ⟨va, vc, rfl⟩ := hO.form
    obtain ⟨n, hn⟩ : ∃ n, n = ps.length := ⟨_, rfl⟩
    have hown0 := hO.own.1
    have hob := hO.own.base
    rw [← hn] at hown0 hob hO hsz hlay ⊢
    replace hm := Lib.hid hm; replace hn := Lib.hid hn; replace hlay := Lib.hid hlay; replace hszT := Lib.hid hszT; replace ih := Lib.hid ih; replace hk := Lib.hid hk
    replace hown0 := Lib.hid hown0; replace hO := Lib.hid hO; replace hob := Lib.hid hob; replace hA := Lib.hid hA
    obtain ⟨iD, hi0, hz0, hz1, hz2⟩ := info_parts info_DNode; have ID := Lib.hid hi0; have ID0 := Lib.hid hz0; have ID1 := Lib.hid hz1; have ID2 := Lib.hid hz2; clear hi0 hz0 hz1 hz2
    obtain ⟨iJ, hi0, hz0, hz1, hz2⟩ := info_parts info_intL; have IJ := Lib.hid hi0; have IJ0 := Lib.hid hz0; have IJ1 := Lib.hid hz1; have IJ2 := Lib.hid hz2; clear hi0 hz0 hz1 hz2
    go_enter Try.func33, Try.ntmps33
    go_upto_region 3 with (at_builtin; refine wpList_append_lies _ rfl _ _ _ rfl (lo) 44 iD _ 4 56 Try.underlying23 ID.out ID0.out ID1.out ID2.out rfl (by omega) (.slice va n vc) (n) (rowsOf drow ps) rfl (own_below hown0.out (by go_grown)) ⟨w.heap.size + 1, 0, none⟩ 1 1 [.int .i64 0, .int .i64 0, .string ⟨#[]⟩, .slice none 0 0] rfl rfl (World.news_of_block (cs := #[.int .i64 0, .int .i64 0, .string ⟨#[]⟩, .slice none 0 0]) (t := 44) (fr := (0, 0)) (heap_alloc_new' _ _ _ (by simp))) (by intro u hu; simp at hu; (first | (subst hu; rfl) | (rcases hu with rfl | rfl | rfl | rfl <;> rfl) | (rcases hu with rfl | rfl | rfl | rfl | rfl | rfl | rfl | rfl | rfl <;> rfl))) (by omega) (by unfold maxLen; omega) (by omega) (by simp; omega) _ rfl ?_; intro g cap w2 hown hgrow hat hlt2)
    have hp1 := OwnD.push (A := fun q => A q ∨ q = w.heap.size) (hO.out.toA fun q hq ha => ha.resolve_right (by omega)) (w1 := (w.alloc (.cells #[.int .i64 kd, .int .i64 nn, .string s, .slice ka m kc] 63)).alloc (.cells #[.int .i64 0, .int .i64 0, .string ⟨#[]⟩, .slice none 0 0] 44)) (by go_grown) hgrow hown (by rw [hn.out]) (by simpa using hat) (p := (⟨0, 0, ⟨#[]⟩, []⟩, none, 0)) ⟨by constructor <;> simp, by constructor <;> simp, by show (0 : Nat) ≤ _; omega⟩ rfl rfl rfl (fun q ha => by rcases ha with ha | rfl; (have := hA.out q ha; simp; omega); (simp; omega))
    have hgA : ¬ A g ∧ g ≠ w.heap.size := by
      rcases hat with h | h
      · exact ⟨hO.out.out g h, by have := (hob.out g h).2; omega⟩
      · simp at h; exact ⟨fun ha => by have := hA.out g ha; omega, by omega⟩
    have hB2 : Below lo w w2 := below_grown2 (wr := w) hgrow (by go_grown) (Below.refl lo w) hlo hown0.out
    have K2 : Kept (fun q => ¬ A q) w w2 := fun k hk1 hk2 => by
      have h := kept_of hgrow (w := w) (by go_grown) k hk1
      exact h fun e => hk2 fun ha => hO.out.out k e.symm ha
    have hz2 : w.heap.size + 2 ≤ w2.heap.size := by have := hgrow.size; simpa using this
    have S2 : RowAt w2 w.heap.size 0 [.int .i64 kd, .int .i64 nn, .string s, .slice ka m kc] := ((RowAt.box w #[.int .i64 kd, .int .i64 nn, .string s, .slice ka m kc] 63).below (w' := (w.alloc (.cells #[.int .i64 kd, .int .i64 nn, .string s, .slice ka m kc] 63)).alloc (.cells #[.int .i64 0, .int .i64 0, .string ⟨#[]⟩, .slice none 0 0] 44)) (by go_grown)).kept (kept_grown hgrow) (fun e => by have := (hob.out _ e.symm).2; omega)
    clear hgrow hown hat hlt2
    obtain ⟨s_0, s_1, s_2, s_3⟩ := S2.box4
    have hsS := World.block_lt_of_cell? _ _ s_0; dsimp only at hsS
    replace K2 := Lib.hid K2
    replace hp1 := Lib.hid hp1
    go_upto_region 4 with fail
    obtain ⟨w3, hW3⟩ : ∃ W, W = w2.alloc (.cells #[.int .i64 kd, .int .i64 nn, .string s, .slice none 0 0] 44) := ⟨_, rfl⟩
    rw [← hW3]
    obtain ⟨bN, hbN⟩ : ∃ b, b = w2.heap.size := ⟨_, rfl⟩
    rw [← hbN]
    have hb3 : Below w2.heap.size w2 w3 := by rw [hW3]; go_grown
    have N3 : RowAt w3 bN 0 [.int .i64 kd, .int .i64 nn, .string s, .slice none 0 0] := by rw [hW3, hbN]; exact RowAt.box w2 #[_, _, _, _] _
    have NW3 : Wr w3 bN 0 4 := by rw [hW3, hbN]; exact Wr.box w2 #[_, _, _, _] _
    have S3 := S2.below hb3
    have hz3 : bN < w3.heap.size := World.block_lt_of_cell? _ _ N3.box4.1
    have hO3 : OwnD (fun q => A q ∨ q = w.heap.size ∨ q = bN) 44 lo w3 (.slice (some ⟨g, 0, none⟩) (n + 1) cap) (ps ++ [(⟨0, 0, ⟨#[]⟩, []⟩, none, 0)]) :=
      OwnD.below (hp1.out.toA fun q hq ha => by rcases ha with ha | ha | ha; exact .inl ha; exact .inr ha; omega) hb3
    have hB3 : Below lo w w3 := hB2.trans (hb3.mono (by omega))
    have K3 : Kept (fun q => ¬ A q) w w3 := K2.out.trans (by omega) (Kept.below hb3)
    have hbN2 : w.heap.size + 2 ≤ bN := by omega
    replace hbN := Lib.hid hbN
    clear hp1 K2 hB2 s_0 s_1 s_2 s_3 S2 hW3 hb3
    obtain ⟨s_0, s_1, s_2, s_3⟩ := S3.box4
    obtain ⟨n_0, n_1, n_2, n_3⟩ := N3.box4
    go_wp2_with fail
    go_loopw [0, 24] (fun vv ii wr => ∃ (j : Nat) (v kv : Value) (qs : List DRow), j ≤ m ∧ vv = v ∧ ii = .int .i64 j ∧ OwnD (fun q => A q ∨ q = w.heap.size ∨ q = bN ∨ kv.ownBlock = some q) 44 lo wr v qs ∧
        Hid (qs.map (·.1) = ps.map (·.1) ++ ⟨0, 0, ⟨#[]⟩, []⟩ :: (layK (layT f) (n + 1) (ks.take j)).2) ∧ RowAt wr w.heap.size 0 [.int .i64 kd, .int .i64 nn, .string s, .slice ka m kc] ∧ RowAt wr bN 0 [.int .i64 kd, .int .i64 nn, .string s, kv] ∧ Wr wr bN 0 4 ∧
        OwnF 3 1 intRow I64 w.heap.size wr kv (layK (layT f) (n + 1) (ks.take j)).1 ∧ kv.ownBlock ≠ some bN ∧ kv.ownBlock ≠ some w.heap.size ∧ Below lo w wr ∧ Hid (Kept (fun q => ¬ A q) w wr)) (fun _ ii _ => m - (intOf ii).toNat)
    case atStart => exact ⟨0, _, .slice none 0 0, _, by omega, rfl, rfl, OwnD.toA hO3 (fun q hq ha => by rcases ha with ha | ha | ha | ha; exact .inl ha; exact .inr (.inl ha); exact .inr (.inr ha); cases ha), by show _ = _; simp [layK], S3, N3, NW3, OwnF.empty, by simp [Value.ownBlock], by simp [Value.ownBlock], hB3, K3⟩
    case round =>
      clear hO3 S3 N3 NW3 hB3 K3 s_0 s_1 s_2 s_3 n_0 n_1 n_2 n_3 hz3
      obtain ⟨j, v, kv, qs, hj, rfl, rfl, O, hqs, S, N, NW, OK, hkN, hkS, hB, K⟩ := hrel
      obtain ⟨s_0, s_1, s_2, s_3⟩ := S.box4
      obtain ⟨n_0, n_1, n_2, n_3⟩ := N.box4
      have hsS := World.block_lt_of_cell? _ _ s_0; dsimp only at hsS
      have hsN := World.block_lt_of_cell? _ _ n_0; dsimp only at hsN
      obtain ⟨va', vc', rfl⟩ := O.form
      obtain ⟨ba, bc, rfl⟩ := OK.form
      have hlk : (layK (layT f) (n + 1) (ks.take j)).1.length = j := by rw [layK_len, List.length_take]; have := hm.out; omega
      have hql : qs.length = n + 1 + (layK (layT f) (n + 1) (ks.take j)).2.length := by
        have h := congrArg List.length hqs.out
        simp at h
        have := hn.out
        omega
      have hle : (layK (layT f) (n + 1) (ks.take j)).2.length ≤ (ks.map (szT f)).sum := Nat.le_trans (layK_le (z := szT f) (fun nx k => layT_le f nx k) _ _) (sum_take_nat _ _ _)
      rw [hlk] at n_3 N OK hkN hkS O
      by_cases hjm : j < m
      · obtain ⟨g1, o1, rfl, hA1, hkk⟩ := hk.out (by omega)
        obtain ⟨k, hkj⟩ : ∃ k, ks[j]? = some k := ⟨_, List.getElem?_eq_getElem (by have := hm.out; omega)⟩
        obtain ⟨q, hq, hP⟩ := hkk j k hkj
        have hst := layK_snoc (layT f) (ks.take j) (n + 1) k
        rw [← take_snoc' hkj] at hst
        have hsz1 : (layK (layT f) (n + 1) (ks.take j)).2.length + szT f k ≤ (ks.map (szT f)).sum := by
          have h1 := sum_take_nat (szT f) ks (j + 1)
          rw [take_snoc' hkj, List.map_append, List.sum_append] at h1
          have h2 := layK_le (L := layT f) (z := szT f) (fun nx k => layT_le f nx k) (ks.take j) (n + 1)
          have h3 : ([k].map (szT f)).sum = szT f k := by simp
          omega
        obtain ⟨qa, qc, rfl⟩ := hP.form
        have hq' := hq.kept K.out (fun h => h hA1)
        obtain ⟨e_0, e_1, e_2, e_3⟩ := hq'.cells4
        have hownK : wr.ownsRow w.heap.size 3 1 (.slice ba j bc) j (rowsOf intRow (layK (layT f) (n + 1) (ks.take j)).1) := by have h := OK.1; rw [hlk] at h; exact h
        have hobK := own_base hownK
        have nbN : ∀ W (h : W ∈ [bN, w.heap.size]), ¬ (some W = (Value.slice ba j bc).ownBlock) := fun W h e => by
          simp at h
          rcases h with rfl | rfl
          · exact hkN e.symm
          · exact hkS e.symm
        have hbw := hB.size
        have hn64 : I64 ((qs.length : Nat) : Int) := by constructor <;> omega
        replace hst := Lib.hid hst; replace hownK := Lib.hid hownK; replace O := Lib.hid O; replace hql := Lib.hid hql
        clear hkk
        generalize hnl : qs.length = nl at *
        have hnl2 : nl ≤ 16777216 := by have := hql.out; omega
        replace hnl := Lib.hid hnl
        go_upto_region 8 with ((at_builtin; refine wpList_append_lies _ rfl _ _ _ rfl (w.heap.size) 3 iJ _ 1 8 Try.underlying42 IJ.out IJ0.out IJ1.out IJ2.out rfl (by omega) (.slice ba j bc) (j) (rowsOf intRow (layK (layT f) (n + 1) (ks.take j)).1) rfl (own_below hownK.out (by go_grown)) ⟨wr.heap.size, 0, none⟩ 1 1 [.int .i64 (nl : Int)] rfl rfl (World.news_of_block (cs := #[.int .i64 (nl : Int)]) (t := 3) (fr := (0, 0)) (heap_alloc_new' _ _ _ (by simp))) (by intro u hu; simp at hu; (first | (subst hu; rfl) | (rcases hu with rfl | rfl | rfl | rfl <;> rfl) | (rcases hu with rfl | rfl | rfl | rfl | rfl | rfl | rfl | rfl | rfl <;> rfl))) (by omega) (by unfold maxLen; omega) (by omega) (by simp; omega) _ rfl ?_; intro g2 cap2 w5 hown hgrow hat hlt2); have k5 := kept_of hgrow (w := wr) (by go_grown); have N5 := N.kept k5 (nbN _ (by simp)); have NW5 := NW.kept k5 (nbN _ (by simp)); have S5 := S.kept k5 (nbN _ (by simp)); obtain ⟨m_0, m_1, m_2, m_3⟩ := N5.box4; have mf_3 := NW5.frz 3 (by omega))
        obtain ⟨w6, hW6⟩ : ∃ W, W = w5.setCell ⟨bN, 3, none⟩ (.slice (some ⟨g2, 0, none⟩) (j + 1) cap2) := ⟨_, rfl⟩
        rw [← hW6]
        have hz5 : wr.heap.size + 1 ≤ w5.heap.size := by have := hgrow.size; simpa using this
        have hz6 : w6.heap.size = w5.heap.size := by rw [hW6]; simp [World.setCell]
        have k6 : Kept (· = bN) w5 w6 := by rw [hW6]; exact Kept.set (S := (· = bN)) (p := ⟨bN, 3, none⟩) (Kept.refl _ _) rfl _
        have k56 : Kept (fun q => some q = (Value.slice ba j bc).ownBlock ∨ q = bN) wr w6 := fun x h1 h2 => (k6 x (by omega) (fun e => h2 (.inr e))).trans (k5 x h1 fun e => h2 (.inl e))
        have N6 : RowAt w6 bN 0 [.int .i64 kd, .int .i64 nn, .string s, .slice (some ⟨g2, 0, none⟩) (j + 1) cap2] := by rw [hW6]; exact N5.set3 _
        have NW6 : Wr w6 bN 0 4 := by rw [hW6]; exact NW5.set 3 _
        have S6 : RowAt w6 w.heap.size 0 [.int .i64 kd, .int .i64 nn, .string s, .slice (some ⟨g1, o1, none⟩) m kc] := S5.kept k6 (by omega)
        have hg2 : g2 ≠ bN ∧ g2 ≠ w.heap.size ∧ w.heap.size ≤ g2 := by
          rcases hat with h | h
          · have := hobK g2 h
            exact ⟨fun e => hkN (e ▸ h), fun e => hkS (e ▸ h), this.1⟩
          · simp at h; omega
        have OK6 : OwnF 3 1 intRow I64 w.heap.size w6 (.slice (some ⟨g2, 0, none⟩) (j + 1) cap2) (layK (layT f) (n + 1) (ks.take (j + 1))).1 := by
          refine OwnF.kept (S := (· = bN)) ⟨?_, fun y hy => ?_⟩ k6 (fun x hx e => ?_)
          · rw [hst.out]
            simp only [List.length_append, hlk, List.length_singleton, rowsOf_append, rowsOf_one]
            rw [← hql.out]
            exact hown
          · rw [hst.out] at hy
            rcases List.mem_append.1 hy with h | h
            · exact OK.2 y h
            · simp only [List.mem_singleton] at h; rw [h, ← hql.out]; exact hn64
          · obtain rfl : g2 = x := by simpa [Value.ownBlock] using hx
            exact hg2.1 e
        have O6 : OwnD (fun q => A q ∨ q = w.heap.size ∨ q = bN ∨ (Value.slice (some ⟨g2, 0, none⟩) (j + 1) cap2).ownBlock = some q) 44 lo w6 (.slice va' nl vc') qs := by
          have h1 := O.out.kept k56 (fun x hx ha hs => ha (by rcases hs with h | h; exact .inr (.inr (.inr h.symm)); exact .inr (.inr (.inl h)))) (by omega)
          refine ⟨h1.own, fun p hp => ?_, fun x hx ha => ?_⟩
          · obtain ⟨h2, h3⟩ := h1.kids p hp
            have h4 := (O.out.kids p hp).2
            refine ⟨h2, fun x hx => ⟨⟨(h3 x hx).1.1, fun ha => ?_⟩, (h3 x hx).2⟩⟩
            rcases ha with ha | ha | ha | ha
            · exact (h3 x hx).1.2 (.inl ha)
            · exact (h3 x hx).1.2 (.inr (.inl ha))
            · exact (h3 x hx).1.2 (.inr (.inr (.inl ha)))
            · obtain rfl : g2 = x := by simpa [Value.ownBlock] using ha
              rcases hat with h | h
              · exact (h3 g2 hx).1.2 (.inr (.inr (.inr h)))
              · have := (h4 g2 hx).2; simp at h; omega
          · rcases ha with ha | ha | ha | ha
            · exact O.out.out x hx (.inl ha)
            · exact O.out.out x hx (.inr (.inl ha))
            · exact O.out.out x hx (.inr (.inr (.inl ha)))
            · obtain rfl : g2 = x := by simpa [Value.ownBlock] using ha
              rcases hat with h | h
              · exact O.out.out g2 hx (.inr (.inr (.inr h)))
              · have := (O.out.own.base g2 hx).2; simp at h; omega
        have hB6 : Below lo w w6 := by
          rw [hW6]
          exact (below_grown2 (wr := wr) (w := w) (base := lo) hgrow (by go_grown) hB (by omega) (own_lo hownK.out hlo)).setCell (p := ⟨bN, 3, none⟩) (by show lo ≤ bN; omega) _
        have K6 : Kept (fun q => ¬ A q) w w6 := K.out.trans hbw fun x h1 h2 => k56 x h1 fun h => h2 fun ha => by
          have := hA.out x ha
          rcases h with h | h
          · have := (hobK x h.symm).1; omega
          · omega
        have hlt6 : ∀ q, (A q ∨ q = w.heap.size ∨ q = bN ∨ (Value.slice (some ⟨g2, 0, none⟩) (j + 1) cap2).ownBlock = some q) → q < w6.heap.size := fun q ha => by
          rcases ha with ha | ha | ha | ha
          · have := hA.out q ha; omega
          · omega
          · omega
          · obtain rfl : g2 = q := by simpa [Value.ownBlock] using ha
            omega
        have hc := ih.out k _ (.slice va' nl vc') [.int .i64 k.kind, .int .i64 k.n, .string k.s, .slice qa k.kids.length qc] qs lo w6 ((hP.kept K6 (fun x hx h => h hx)).to (fun b _ _ => rfl) fun b hb _ => .inl hb) O6 (by omega) hlt6 (by have := hql.out; have := hnl.out; omega)
        have q_0 := (hq.kept K6 (fun h => h hA1)).cells4
        obtain ⟨f_0, f_1, f_2, f_3⟩ := q_0
        obtain ⟨t_0, t_1, t_2, t_3⟩ := S6.box4
        clear e_0 e_1 e_2 e_3 m_0 m_1 m_2 m_3 mf_3 N5 NW5 S5 k5 k6 hgrow hown hat S N NW s_0 s_1 s_2 s_3 n_0 n_1 n_2 n_3 hq' hP k56 hW6 hlt2
        have hsS6 := World.block_lt_of_cell? _ _ t_0; dsimp only at hsS6
        replace hc := Lib.hid hc; replace K6 := Lib.hid K6; replace O6 := Lib.hid O6; replace OK6 := Lib.hid OK6; replace hlt6 := Lib.hid hlt6; replace hg2 := Lib.hid hg2; replace nbN := Lib.hid nbN; replace hobK := Lib.hid hobK; replace hz6 := Lib.hid hz6; replace hkj := Lib.hid hkj; replace hlk := Lib.hid hlk
        go_upto_region 9 with (go_at_call 33; (with_reducible refine (hc.out).mono ?_); rintro e w7 ⟨v7, qs7, rfl, O7, hqs7, hB7, K7⟩)
        have hz7 := hB7.size
        have hO7 : Hid (qs7.map (·.1) = ps.map (·.1) ++ ⟨0, 0, ⟨#[]⟩, []⟩ :: (layK (layT f) (n + 1) (ks.take (j + 1))).2) := by
          show _ = _
          rw [hqs7, hqs.out, hst.out]
          have h1 := hql.out
          have h2 := hnl.out
          rw [h2, h1]
          simp
        have hb7 : Below lo w w7 := hB6.trans hB7
        have S7 := S6.kept K7 (fun h => h (.inr (.inl rfl)))
        have N7 := N6.kept K7 (fun h => h (.inr (.inr (.inl rfl))))
        have NW7 := NW6.kept K7 (fun h => h (.inr (.inr (.inl rfl))))
        have OK7 := OK6.out.kept K7 (fun x hx h => h (.inr (.inr (.inr hx))))
        have K70 : Hid (Kept (fun q => ¬ A q) w w7) := Kept.trans K6.out (by have := hz6.out; omega) fun x h1 h2 => K7 x h1 fun h3 => h2 fun ha => h3 (.inl ha)
        have hgb : (Value.slice (some ⟨g2, 0, none⟩) (j + 1) cap2).ownBlock ≠ some bN := fun h => hg2.out.1 (by simpa [Value.ownBlock] using h)
        have hgs : (Value.slice (some ⟨g2, 0, none⟩) (j + 1) cap2).ownBlock ≠ some w.heap.size := fun h => hg2.out.2.1 (by simpa [Value.ownBlock] using h)
        clear hqs7 K7 hB7 S6 N6 NW6 OK6 K6 t_0 t_1 t_2 t_3 f_0 f_1 f_2 f_3 hlt6 hc
        go_wp2_with fail
        go_roundw
        case rel => exact ⟨j + 1, v7, _, qs7, by omega, rfl, by go_num, O7, hO7, S7, N7, NW7, OK7, hgb, hgs, hb7, K70⟩
        case measure => simp [intOf]; omega
      · obtain rfl : j = m := by omega
        have hfull : ks.take j = ks := List.take_of_length_le (by have := hm.out; omega)
        rw [hfull] at hqs OK hlk hql
        replace hlk := Lib.hid hlk
        replace hfull := Lib.hid hfull
        obtain ⟨gv, cv, hv, hg1, hg2, _, _, hR, hW⟩ := own_cells O.own.1 (show 0 < qs.length by omega)
        obtain ⟨rfl, rfl⟩ : va' = some ⟨gv, 0, none⟩ ∧ vc' = cv := by injection hv with e1 e2 e3; exact ⟨e1, e3⟩
        have hfz : ∀ x, x < qs.length * 4 → ∃ c, wr.cell? ⟨gv, x, none⟩ = some c ∧ wr.frozen? ⟨gv, x, none⟩ = false := fun x hx => by
          obtain ⟨c, h1, h2⟩ := hW x hx
          rw [Nat.zero_add] at h1 h2
          exact ⟨c, h1, h2⟩
        obtain ⟨z0, z_0, y_0⟩ := hfz (n * 4) (by omega); obtain ⟨z1, z_1, y_1⟩ := hfz (n * 4 + 1) (by omega); obtain ⟨z2, z_2, y_2⟩ := hfz (n * 4 + 2) (by omega); obtain ⟨z3, z_3, y_3⟩ := hfz (n * 4 + 3) (by omega)
        have hnl : n < qs.length := by omega
        have hfin : ∀ W, W = storeRow wr gv (n * 4) [.int .i64 kd, .int .i64 nn, .string s, .slice ba j bc] → LayPost A lo w ps (layT (f + 1) n (.mk kd nn s ks)) (.returned (.slice (some ⟨gv, 0, none⟩) qs.length vc')) W := fun W hW => by
          have e0 : kidsV (⟨kd, nn, s, (layK (layT f) (n + 1) ks).1⟩, ba, bc) = .slice ba j bc := by unfold kidsV; rw [hlk.out]
          have ed : drow (⟨kd, nn, s, (layK (layT f) (n + 1) ks).1⟩, ba, bc) = [.int .i64 kd, .int .i64 nn, .string s, .slice ba j bc] := by unfold drow; rw [e0]
          rw [← ed] at hW
          have k1 : Kept (· = gv) wr W := by rw [hW]; exact kept_storeRow gv _ _ (Kept.refl _ _)
          have hsz : W.heap.size = wr.heap.size := by rw [hW]; exact size_storeRow gv _ _ _
          have hne : ¬ (A gv ∨ gv = w.heap.size ∨ gv = bN ∨ (Value.slice ba j bc).ownBlock = some gv) := O.out gv rfl
          have hOK : Sl IntR 1 w.heap.size W (.slice ba j bc) (layK (layT f) (n + 1) ks).1 := (OK.kept k1 (fun x hx e => by subst e; exact hne (.inr (.inr (.inr hx))))).sl flatInt
          refine ⟨.slice (some ⟨gv, 0, none⟩) qs.length vc', qs.set n (⟨kd, nn, s, (layK (layT f) (n + 1) ks).1⟩, ba, bc), rfl, ⟨⟨?_, fun x hx => ?_⟩, ?_, fun x hx ha => ?_⟩, ?_, ?_, ?_⟩
          · rw [hW, List.length_set]
            exact own_store (v := .slice none 0 0) flatD O.own.1 hnl
          · rcases List.mem_or_eq_of_mem_set hx with h | rfl
            · exact O.own.2 x h
            · exact hwf
          · refine KidsIn.set ?_ ⟨?_, fun x hx => ⟨⟨?_, ?_⟩, ?_⟩⟩
            · exact (O.kids.kept k1 (fun x hx e => hx.1 (by rw [e]; rfl)) (by omega)).to fun x _ hx => ⟨hx.1, fun ha => hx.2 (.inl ha)⟩
            · rw [e0]; exact hOK.mono IntR.good hlo
            · rw [e0] at hx
              intro e
              obtain rfl : gv = x := by simpa [Value.ownBlock] using e
              exact hne (.inr (.inr (.inr hx)))
            · rw [e0] at hx
              intro ha
              have := hA.out x ha
              have := (OK.base x hx).1
              omega
            · rw [e0] at hx
              have := (OK.base x hx).2
              omega
          · obtain rfl : gv = x := by simpa [Value.ownBlock] using hx
            exact hne (.inl ha)
          · rw [List.map_set, hqs.out, hlay.out]
            have h1 : n = (ps.map (·.1)).length := by rw [List.length_map]; exact hn.out
            rw [List.set_append_right _ _ (by omega), h1, Nat.sub_self]
            rfl
          · rw [hW]; exact hB.trans ((below_storeRow gv _ _ _).mono hg1)
          · exact Kept.trans K.out hB.size fun x h1 h2 => k1 x h1 fun e => by subst e; exact h2 fun ha => hne (.inl ha)
        replace hfin := Lib.hid hfin; replace hql := Lib.hid hql
        clear hR hW O OK hk hv hfz
        generalize hnl : qs.length = nl at *
        replace hnl := Lib.hid hnl
        go_wp2_with fail
        go_returns
        exact hfin.out _ rfl
end Go.Proofs.Ytpblhonnknmjjaa

/- How much a value holds that was read: plain law. What TextData answers. -/
namespace Go.Proofs.Ytpblhonnknmjjaa
open Go.RowKit
set_option linter.unusedVariables false
set_option linter.unusedSimpArgs false

/-- How much a tree holds. -/
def mT : Nat → PxT → Nat
  | 0, _ => 0
  | f + 1, t => 1 + t.kids.length + t.s.size + (t.kids.map (mT f)).sum
theorem szT_mT : ∀ (f : Nat) (t : PxT), szT f t ≤ mT f t
  | 0, t => Nat.le_refl _
  | f + 1, t => by
    have h : ∀ ks : List PxT, (ks.map (szT f)).sum ≤ (ks.map (mT f)).sum := by
      intro ks
      induction ks with
      | nil => simp
      | cons k ks ih => have := szT_mT f k; simp; omega
    have := h t.kids
    simp only [szT, mT]
    omega
theorem layK_bulk {L : Nat → PxT → List GDNode} {z : PxT → Nat} (h : ∀ nx k, bulkS GDNode.bulk (L nx k) ≤ (z k : Int)) : ∀ (ks : List PxT) (nx : Nat), bulkS GDNode.bulk (layK L nx ks).2 ≤ ((ks.map z).sum : Nat)
  | [], nx => by simp [layK, bulkS]
  | c :: ks, nx => by
    have h1 := layK_bulk h ks (nx + (L nx c).length)
    have h2 := h nx c
    simp only [layK, bulkS, List.length_append, List.map_append, List.sum_append, List.map_cons, List.sum_cons] at *
    push_cast
    push_cast at h1
    omega
theorem layT_bulk : ∀ (f at_ : Nat) (t : PxT), bulkS GDNode.bulk (layT f at_ t) ≤ (mT f t : Int)
  | 0, at_, t => by simp [layT, bulkS, mT]
  | f + 1, at_, t => by
    have h := layK_bulk (L := layT f) (z := mT f) (fun nx k => layT_bulk f nx k) t.kids (at_ + 1)
    have hl := layK_len (layT f) t.kids (at_ + 1)
    simp only [layT, mT]
    have e : bulkS GDNode.bulk (⟨t.kind, t.n, t.s, (layK (layT f) (at_ + 1) t.kids).1⟩ :: (layK (layT f) (at_ + 1) t.kids).2) = 1 + ((t.s.size : Int) + (t.kids.length : Int)) + bulkS GDNode.bulk (layK (layT f) (at_ + 1) t.kids).2 := by
      simp only [bulkS, List.length_cons, List.map_cons, List.sum_cons, GDNode.bulk]
      rw [hl]
      push_cast
      omega
    rw [e]
    push_cast
    push_cast at h
    omega
theorem scanQ_len : ∀ {l p r : List UInt8}, scanQ l = some (p, r) → l = p ++ r
  | [], p, r, h => by simp [scanQ] at h
  | b :: l, p, r, h => by
    unfold scanQ at h
    split at h
    · rename_i hb
      injection h with h; injection h with h1 h2
      rw [hb, ← h1, ← h2]; rfl
    · split at h
      · rename_i _ hb
        cases l with
        | nil => cases h
        | cons c l =>
          dsimp only at h
          cases hs : scanQ l with
          | none => rw [hs] at h; cases h
          | some q =>
            rw [hs] at h
            injection h with h; injection h with h1 h2
            have := scanQ_len (l := l) (p := q.1) (r := q.2) hs
            rw [← h1, ← h2, hb, this]; rfl
      · cases hs : scanQ l with
        | none => rw [hs] at h; cases h
        | some q =>
          rw [hs] at h
          injection h with h; injection h with h1 h2
          have := scanQ_len (l := l) (p := q.1) (r := q.2) hs
          rw [← h1, ← h2, this]; rfl
theorem flat_len (l : List UInt8) : l.length ≤ (l.flatMap quoteB).length := by
  induction l with
  | nil => simp
  | cons x l ih => have := (quoteB_len x).2; simp at *; omega
theorem unquote_len {l : List UInt8} {t : ByteArray} (h : unquote l = some t) : t.size + 2 ≤ l.length := by
  have h1 := unquote_some.1 h
  rw [quoteS_list] at h1
  have h2 := congrArg List.length h1
  simp only [List.length_cons, List.length_append, List.length_nil] at h2
  have h3 := flat_len t.data.toList
  have h4 : t.data.toList.length = t.size := rfl
  omega
/-- What a part of a text that is read may hold. -/
def Small (l r : List UInt8) (t : PxT) : Prop := r.length ≤ l.length ∧ ∀ F, mT F t ≤ 1 + 2 * (l.length - r.length)
theorem mT_leaf (F : Nat) (k n : Int) (s : ByteArray) : mT F (.mk k n s []) ≤ 1 + s.size := by
  cases F with
  | zero => simp [mT]
  | succ F => simp [mT, PxT.kids, PxT.s]
theorem mT_two (F : Nat) (a b : PxT) {x y : Nat} (ha : ∀ F, mT F a ≤ x) (hb : ∀ F, mT F b ≤ y) : mT F (tPair a b) ≤ 3 + x + y := by
  cases F with
  | zero => simp [mT]
  | succ F =>
    have := ha F; have := hb F
    simp only [mT, tPair, PxT.kids, PxT.s, List.length_cons, List.length_nil, List.map_cons, List.map_nil, List.sum_cons, List.sum_nil]
    have : ByteArray.empty.size = 0 := rfl
    omega
theorem mT_one (F : Nat) (s : ByteArray) (a : PxT) {x : Nat} (ha : ∀ F, mT F a ≤ x) : mT F (tCon1 s a) ≤ 2 + s.size + x := by
  cases F with
  | zero => simp [mT]
  | succ F =>
    have := ha F
    simp only [mT, tCon1, PxT.kids, PxT.s, List.length_cons, List.length_nil, List.map_cons, List.map_nil, List.sum_cons, List.sum_nil]
    omega
theorem mT_cons (F : Nat) (a b : PxT) {x y : Nat} (ha : ∀ F, mT F a ≤ x) (hb : ∀ F, mT F b ≤ y) : mT F (tCons a b) ≤ 7 + x + y := by
  have h := mT_one F ⟨sCons.toArray⟩ (tPair a b) (fun F => mT_two F a b ha hb)
  have e : (⟨sCons.toArray⟩ : ByteArray).size = 2 := rfl
  have : mT F (tCons a b) = mT F (tCon1 ⟨sCons.toArray⟩ (tPair a b)) := rfl
  omega
theorem isAt_len {t l : List UInt8} (h : isAt t l = true) : t.length ≤ l.length := by
  unfold isAt at h
  exact (List.isPrefixOf_iff_prefix.1 h).length_le
theorem wOf_split (l : List UInt8) : (wOf l).length + (wRest l).length = l.length := by
  have := List.takeWhile_append_dropWhile (p := fun b => !stopB b) (l := l)
  have h := congrArg List.length this
  rw [List.length_append] at h
  exact h
theorem readIn_small {rd : Rd} (hrd : ∀ l t r, rd l = some (t, r) → Small l r t) {l : List UInt8} {t : PxT} {r : List UInt8} (h : readIn rd l = some (t, r)) : Small (40 :: l) r t := by
  unfold readIn at h
  split at h
  · rename_i h1
    have := isAt_len h1
    injection h with h; injection h with e1 e2
    subst e1 e2
    refine ⟨by simp; omega, fun F => ?_⟩
    have := mT_leaf F 6 0 ByteArray.empty
    have e : ByteArray.empty.size = 0 := rfl
    show mT F (.mk 6 0 ByteArray.empty []) ≤ _
    omega
  · split at h
    · rename_i h0 h1
      simp only [Bool.and_eq_true] at h1
      have hl := isAt_len h1.2.1
      have hw := wOf_split l
      cases hr : rd ((wRest l).drop 1) with
      | none => rw [hr] at h; cases h
      | some q =>
        obtain ⟨k, r1⟩ := q
        rw [hr] at h
        dsimp only at h
        obtain ⟨h2, h3⟩ := hrd _ _ _ hr
        split at h
        · rename_i h4
          have := isAt_len h4
          injection h with h; injection h with e1 e2
          subst e1 e2
          rw [List.length_drop] at h2 h3
          simp only [List.length_singleton] at *
          refine ⟨by rw [List.length_drop, List.length_cons]; omega, fun F => ?_⟩
          have h5 := mT_one F ⟨(wOf l).toArray⟩ k h3
          have e : (⟨(wOf l).toArray⟩ : ByteArray).size = (wOf l).length := by show (wOf l).toArray.size = _; simp
          rw [List.length_drop, List.length_cons]
          omega
        · cases h
    · cases hr : rd l with
      | none => rw [hr] at h; cases h
      | some q =>
        obtain ⟨a, r1⟩ := q
        rw [hr] at h
        dsimp only at h
        obtain ⟨h2, h3⟩ := hrd _ _ _ hr
        split at h
        · rename_i h4
          have l4 := isAt_len h4
          have e4 : kColons.length = 4 := rfl
          cases hs : rd (r1.drop 4) with
          | none => rw [hs] at h; cases h
          | some q =>
            obtain ⟨b, r2⟩ := q
            rw [hs] at h
            dsimp only at h
            obtain ⟨h5, h6⟩ := hrd _ _ _ hs
            split at h
            · rename_i h7
              have l7 := isAt_len h7
              injection h with h; injection h with e1 e2
              subst e1 e2
              rw [List.length_drop] at h5 h6
              simp only [List.length_singleton] at *
              refine ⟨by rw [List.length_drop, List.length_cons]; omega, fun F => ?_⟩
              have h8 := mT_cons F a b h3 h6
              rw [List.length_drop, List.length_cons]
              omega
            · cases h
        · split at h
          · rename_i h4
            have l4 := isAt_len h4
            have e4 : kComma.length = 2 := rfl
            cases hs : rd (r1.drop 2) with
            | none => rw [hs] at h; cases h
            | some q =>
              obtain ⟨b, r2⟩ := q
              rw [hs] at h
              dsimp only at h
              obtain ⟨h5, h6⟩ := hrd _ _ _ hs
              split at h
              · rename_i h7
                have l7 := isAt_len h7
                injection h with h; injection h with e1 e2
                subst e1 e2
                rw [List.length_drop] at h5 h6
                simp only [List.length_singleton] at *
                refine ⟨by rw [List.length_drop, List.length_cons]; omega, fun F => ?_⟩
                have h8 := mT_two F a b h3 h6
                rw [List.length_drop, List.length_cons]
                omega
              · cases h
          · cases h
theorem readS_small : ∀ (f : Nat) (l : List UInt8) (t : PxT) (r : List UInt8), readS f l = some (t, r) → Small l r t
  | 0, l, t, r, h => by simp [readS] at h
  | f + 1, [], t, r, h => by simp [readS] at h
  | f + 1, b :: l, t, r, h => by
    unfold readS at h
    dsimp only at h
    split at h
    · rename_i hb
      subst hb
      exact readIn_small (readS_small f) h
    · split at h
      · cases hs : scanQ l with
        | none => rw [hs] at h; cases h
        | some q =>
          obtain ⟨p, r1⟩ := q
          rw [hs] at h
          dsimp only at h
          have hl := congrArg List.length (scanQ_len hs)
          rw [List.length_append] at hl
          cases hu : unquote (34 :: p) with
          | none => rw [hu] at h; cases h
          | some s =>
            rw [hu] at h
            have hz := unquote_len hu
            rw [List.length_cons] at hz
            injection h with h; injection h with e1 e2
            subst e1 e2
            refine ⟨by rw [List.length_cons]; omega, fun F => ?_⟩
            have := mT_leaf F 2 0 s
            rw [List.length_cons]
            show mT F (.mk 2 0 s []) ≤ _
            omega
      · have hw := wOf_split (b :: l)
        cases ht : textNum (wOf (b :: l)) with
        | some n =>
          rw [ht] at h
          injection h with h; injection h with e1 e2
          subst e1 e2
          refine ⟨by omega, fun F => ?_⟩
          have := mT_leaf F 3 n ByteArray.empty
          have e : ByteArray.empty.size = 0 := rfl
          show mT F (.mk 3 n ByteArray.empty []) ≤ _
          omega
        | none =>
          rw [ht] at h
          injection h with h; injection h with e1 e2
          subst e1 e2
          refine ⟨by omega, fun F => ?_⟩
          have := mT_leaf F 4 0 ⟨(wOf (b :: l)).toArray⟩
          have e : (⟨(wOf (b :: l)).toArray⟩ : ByteArray).size = (wOf (b :: l)).length := by show (wOf (b :: l)).toArray.size = _; simp
          show mT F (.mk 4 0 ⟨(wOf (b :: l)).toArray⟩ []) ≤ _
          omega
/-- What TextData answers: the value, if s is a right value's text. -/
noncomputable def textDataP (s : ByteArray) : Option GData := match readS 101 (fromB s 0) with
  | some (t, []) => if dataText ⟨layT 203 0 t⟩ = s then some ⟨layT 203 0 t⟩ else none
  | _ => none
end Go.Proofs.Ytpblhonnknmjjaa
