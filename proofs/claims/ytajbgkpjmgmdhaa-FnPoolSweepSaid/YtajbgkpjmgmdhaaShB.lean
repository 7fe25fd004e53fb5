import Derived.Test.YtajbgkpjmgmdhaaHeap
import Derived.Test.YtajbgkpjmgmdhaaFindVal
import Derived.Test.YtajbgkpjmgmdhaaShA
import Derived.Test.YtajbgkpjmgmdhaaPack
import Derived.Deep.RegionLaw
import Derived.Great.BuildSlice
/- HeapOk: a heap and its roots are right. -/
namespace Go.Proofs.Ytajbgkpjmgmdhaa
open Go.RowKit
set_option linter.unusedVariables false
set_option linter.unusedSimpArgs false
attribute [local go_sem] Ext.cell

def heapOk (h : List GCell) (vs : List GVal) : Bool := decide (h.length ≤ 4000) && (h.all (fun c => cellOk c h.length) && vs.all (fun v => valOk v h.length))

set_option maxHeartbeats 1000000 in
theorem heapOk1_c (v : GVal) (n bB hc : Nat) (ha : Option Addr) (hn : n ≤ 1048576) (w : World) (hB : RowAt w bB 0 [.slice ha n hc]) :
    Calls Try.prog 81 #[.agg #[.int .i64 v.kind, .int .i64 v.n, .string v.s], .pointer (some ⟨bB, 0, none⟩)] w fun e w' => e = .returned (.bool (!valOk v n)) ∧ Below w.heap.size w w' := by
  have c1 := fun W => valOk_c v (n : Int) (by omega) (by omega) W
  generalize valOk v n = q at *
  replace c1 := Lib.hid c1
  go_enter Try.func81, Try.ntmps81
  go_upto_region 1 with fail
  have D : RowAt (w.alloc (.cells #[.int .i64 v.kind, .int .i64 v.n, .string v.s] 28)) (w.heap.size) 0 [.int .i64 v.kind, .int .i64 v.n, .string v.s] := RowAt.box w #[.int .i64 v.kind, .int .i64 v.n, .string v.s] 28
  have hw : Below w.heap.size w (w.alloc (.cells #[.int .i64 v.kind, .int .i64 v.n, .string v.s] 28)) := by go_grown
  generalize (w.alloc (.cells #[.int .i64 v.kind, .int .i64 v.n, .string v.s] 28)) = w0 at *
  have hs := hw.size
  have hB := hB.below hw
  obtain ⟨d_0, d_1, d_2⟩ := D.box3; have hsD := World.block_lt_of_cell? _ _ d_0; dsimp only at hsD
  have b_0 := hB.box1
  go_wp2_with (go_at_call 78; (with_reducible refine (c1.out _).mono ?_); rintro e w1 ⟨rfl, hb⟩; have hw1 := hw.trans (hb.mono (by first | (simp; omega) | omega)))
  go_returns
  exact ⟨rfl, hw1⟩

set_option maxRecDepth 100000 in
set_option maxHeartbeats 4000000 in
theorem heapOk_c (h : List GCell) (vs : List GVal) (u v : Value) (lo lo1 : Nat) (hl : h.length ≤ 1048576) (w : World) (hu : Sl GCell.R 9 lo w u h) (hv : Sl GVal.R 3 lo1 w v vs) :
    Calls Try.prog 63 #[u, v] w fun e w' => e = .returned (.bool (heapOk h vs)) ∧ Below w.heap.size w w' := by
  obtain ⟨ha, hc, rfl, l0, m0, h0⟩ := hu
  obtain ⟨ra, rc, rfl⟩ := hv.form
  have eg : ∀ args w, (callFunc 81 args).run Try.prog w = .ok (.enter 81 args) w := fun _ _ => by kernel_rfl
  obtain ⟨n, hn⟩ : ∃ n, n = h.length := ⟨_, rfl⟩
  obtain ⟨m, hm⟩ : ∃ n, n = vs.length := ⟨_, rfl⟩
  have hdef : heapOk h vs = (decide (n ≤ 4000) && (h.all (fun c => cellOk c n) && vs.all (fun v => valOk v n))) := by unfold heapOk; rw [hn]
  rw [← hn] at l0 hl ⊢
  rw [hdef]
  rw [← hm] at hv ⊢
  replace hn := Lib.hid hn; replace hm := Lib.hid hm; replace hv := Lib.hid hv; replace h0 := Lib.hid h0
  clear hdef
  by_cases hbig : 4000 < n
  · have e : decide (n ≤ 4000) = false := by simp; omega
    rw [e]
    go_enter Try.func63, Try.ntmps63
    go_wp2
    all_goals (go_returns; exact ⟨rfl, by go_grown⟩)
  have e : decide (n ≤ 4000) = true := by simp; omega
  rw [e, Bool.true_and]
  clear e
  go_enter Try.func63, Try.ntmps63
  go_upto_region 1 with fail
  have B : RowAt (w.alloc (.cells #[.slice ha n hc] 23)) (w.heap.size) 0 [.slice ha n hc] := RowAt.box w #[.slice ha n hc] 23
  have hw : Below w.heap.size w (w.alloc (.cells #[.slice ha n hc] 23)) := by go_grown
  generalize (w.alloc (.cells #[.slice ha n hc] 23)) = w0 at *
  have b_0 := B.box1
  have hs := hw.size
  have hsz : w.heap.size < w0.heap.size := by have := World.block_lt_of_cell? _ _ b_0; dsimp only at this; omega
  go_wp2_with fail
  go_loopw [12] (fun i wr => ∃ k : Nat, k ≤ n ∧ i = .int .i64 k ∧ Below w.heap.size w wr ∧ RowAt wr w.heap.size 0 [.slice ha n hc] ∧ w.heap.size < wr.heap.size ∧ Hid (∀ c ∈ h.take k, cellOk c n = true)) (fun i _ => n - (intOf i).toNat)
  case atStart => exact ⟨0, by omega, rfl, hw, B, hsz, by show ∀ c ∈ h.take 0, _; simp⟩
  case round =>
    clear hw B b_0 hs hsz
    obtain ⟨k, hk, rfl, hw, B, hsz, hF⟩ := hrel
    have b_0 := B.box1
    by_cases hlt : k < n
    · obtain ⟨b1, o1, c, s1, _, rfl, P1, ⟨rfl, -⟩, r1⟩ := (h0.out.below GCell.good hw).get hn hlt
      obtain ⟨e_0, e_1, e_2, e_3, e_4, e_5, e_6, e_7, e_8⟩ := r1.cells9
      clear r1
      have c1 := fun W => cellOk_c c (n : Int) (by omega) (by omega) W
      generalize hq : cellOk c n = q at c1
      replace hq := Lib.hid hq; replace c1 := Lib.hid c1
      cases q
      · go_wp2_with (go_at_call 72; (with_reducible refine (c1.out _).mono ?_); rintro e w1 ⟨rfl, hb⟩; have hb' : Below wr.heap.size wr w1 := (by go_grown : Below wr.heap.size wr _).trans (hb.mono (by simp)); have hw1 := hw.trans (hb'.mono (by have := hw.size; omega)); have B1 := B.below hb'; have hz1 : w.heap.size < w1.heap.size := (by have := hb'.size; omega); clear hb hb')
        go_returns
        refine ⟨?_, hw1⟩
        have : h.all (fun c => cellOk c n) = false := List.all_eq_false.2 ⟨c, List.mem_of_getElem? P1.out, by rw [hq.out]; simp⟩
        rw [this, Bool.false_and]; rfl
      · go_wp2_with (go_at_call 72; (with_reducible refine (c1.out _).mono ?_); rintro e w1 ⟨rfl, hb⟩; have hb' : Below wr.heap.size wr w1 := (by go_grown : Below wr.heap.size wr _).trans (hb.mono (by simp)); have hw1 := hw.trans (hb'.mono (by have := hw.size; omega)); have B1 := B.below hb'; have hz1 : w.heap.size < w1.heap.size := (by have := hb'.size; omega); clear hb hb')
        go_roundw
        case rel =>
          refine ⟨k + 1, by omega, by go_num, hw1, B1, hz1, ?_⟩
          show ∀ c ∈ h.take (k + 1), cellOk c n = true
          rw [take_snoc' P1.out]
          intro y hy
          rcases List.mem_append.1 hy with h | h
          · exact hF.out y h
          · simp at h; subst h; exact hq.out
        case measure => simp [intOf]; omega
    · obtain rfl : k = n := by omega
      have hall : h.all (fun c => cellOk c k) = true := List.all_eq_true.2 fun c hc => by
        have hF := hF.out
        rw [take_full hn.out] at hF
        exact hF c hc
      replace hall := Lib.hid hall
      have hcl : ∀ W (hW : Below wr.heap.size wr W), Calls Try.prog 55 #[.slice ra m rc, .func (.func 81) #[] #[.pointer (some ⟨w.heap.size, 0, none⟩)]] W fun e w' => e = .returned (.bool (!(vs.all (fun v => valOk v k)))) ∧ Below W.heap.size W w' := fun W hW => by
        rw [List.not_all_eq_any_not]
        refine containsFuncVal_c vs (fun v => !valOk v k) 81 _ lo1 _ W (hv.out.below GVal.good (hw.trans (hW.mono (by omega)))) (fun i x r W' hx hW' hr => ?_) eg
        obtain ⟨rfl, -⟩ := hr
        have hWW := hW.trans (hW'.mono hW.size)
        exact heapOk1_c x k w.heap.size hc ha hl W' (B.below hWW)
      generalize hq : vs.all (fun v => valOk v k) = q at hcl
      replace hcl := Lib.hid hcl; replace hq := Lib.hid hq
      go_wp2_with (go_at_call 55; (with_reducible refine (hcl.out _ (Below.refl _ _)).mono ?_); rintro en w8 ⟨rfl, hbk⟩; have hw8 := hw.trans (hbk.mono (by omega)))
      go_returns
      refine ⟨?_, hw8⟩
      rw [hall.out, hq.out, Bool.true_and]
      show Ending.returned (.bool _) = _
      simp
end Go.Proofs.Ytajbgkpjmgmdhaa

/- shown: a value as a string, by depth. -/
namespace Go.Proofs.Ytajbgkpjmgmdhaa
open Go.RowKit
set_option linter.unusedVariables false
set_option linter.unusedSimpArgs false
attribute [local go_sem] Ext.cell

def leafP (v : GVal) (t : ByteArray) : ByteArray :=
  if v.kind = 1 then numText v.n else if v.kind = 2 then quoteS v.s else if v.kind = 3 then ⟨#[40, 41]⟩ else if v.kind = 4 then v.s else if v.kind = 5 then ⟨#[60]⟩ ++ v.s ++ ⟨#[62]⟩ else if v.kind = 7 then ⟨#[45]⟩ else t
def nodeP (c : GCell) (a b : ByteArray) : ByteArray :=
  if c.kind = 1 then ⟨#[40]⟩ ++ c.s ++ ⟨#[32]⟩ ++ a ++ ⟨#[41]⟩
  else if c.kind = 2 then ⟨#[40]⟩ ++ a ++ ⟨#[44, 32]⟩ ++ b ++ ⟨#[41]⟩
  else if c.kind = 3 then ⟨#[60, 102, 117, 110, 32]⟩ ++ numText c.n ++ ⟨#[32]⟩ ++ a ++ ⟨#[62]⟩
  else if c.kind = 4 then ⟨#[60, 114, 101, 99, 32]⟩ ++ numText c.n ++ ⟨#[32]⟩ ++ a ++ ⟨#[62]⟩
  else if c.kind = 5 then ⟨#[123]⟩ ++ a ++ ⟨#[125]⟩
  else ⟨#[91]⟩ ++ a ++ ⟨#[32]⟩ ++ b ++ ⟨#[93]⟩
def shownP (h : List GCell) : Nat → GVal → ByteArray
  | 0, v => leafP v ⟨#[63]⟩
  | d + 1, v => leafP v (nodeP (h.getD v.n.toNat zeroG) (shownP h d (h.getD v.n.toNat zeroG).a) (shownP h d (h.getD v.n.toNat zeroG).b))
def shB : Nat → Nat
  | 0 => 4194400
  | d + 1 => 2 * shB d + 1048700
theorem shB_le : ∀ d, d < 13 → shB d ≤ 1099511627776 := by decide
theorem numText_len (n : Int) : (numText n).size ≤ 20 := by
  unfold numText
  split
  · have := numS_len n.natAbs (by omega)
    split
    · rw [ByteArray.size_append]; show 1 + _ ≤ 20; omega
    · omega
  · exact Nat.zero_le _
theorem quoteS_len (s : ByteArray) : (quoteS s).size ≤ 4 * s.size + 2 := by
  have := quoteL_len s.data.toList
  have e : s.data.toList.length = s.size := rfl
  show (quoteL s.data.toList ++ [34]).toArray.size ≤ _
  simp only [List.size_toArray, List.length_append, List.length_singleton]
  omega
theorem leafP_len {v : GVal} {t : ByteArray} {m : Nat} (hs : v.s.size ≤ 1048576) (ht : t.size ≤ m) (hm : 4194400 ≤ m) : (leafP v t).size ≤ m := by
  have h1 := numText_len v.n
  have h2 := quoteS_len v.s
  unfold leafP
  repeat' split
  all_goals try simp only [ByteArray.size_append]
  all_goals first | omega | (show 2 ≤ m; omega) | (show 1 ≤ m; omega) | (show 1 + v.s.size + 1 ≤ m; omega)
/-- The texts in a heap are short. -/
def Short (h : List GCell) : Prop := ∀ c ∈ h, c.s.size ≤ 1048576 ∧ c.a.s.size ≤ 1048576 ∧ c.b.s.size ≤ 1048576
theorem Short.get {h : List GCell} (H : Short h) (i : Nat) : (h.getD i zeroG).s.size ≤ 1048576 ∧ (h.getD i zeroG).a.s.size ≤ 1048576 ∧ (h.getD i zeroG).b.s.size ≤ 1048576 := by
  rw [List.getD_eq_getElem?_getD]
  cases e : h[i]? with
  | none => exact ⟨Nat.zero_le _, Nat.zero_le _, Nat.zero_le _⟩
  | some c => exact H c (List.mem_of_getElem? e)
theorem nodeP_len {c : GCell} {a b : ByteArray} {m : Nat} (hs : c.s.size ≤ 1048576) (ha : a.size ≤ m) (hb : b.size ≤ m) : (nodeP c a b).size ≤ 2 * m + 1048700 := by
  have h1 := numText_len c.n
  have k1 : (⟨#[40]⟩ : ByteArray).size = 1 := rfl
  have k2 : (⟨#[32]⟩ : ByteArray).size = 1 := rfl
  have k3 : (⟨#[41]⟩ : ByteArray).size = 1 := rfl
  have k4 : (⟨#[44, 32]⟩ : ByteArray).size = 2 := rfl
  have k5 : (⟨#[60, 102, 117, 110, 32]⟩ : ByteArray).size = 5 := rfl
  have k6 : (⟨#[60, 114, 101, 99, 32]⟩ : ByteArray).size = 5 := rfl
  have k7 : (⟨#[62]⟩ : ByteArray).size = 1 := rfl
  have k8 : (⟨#[123]⟩ : ByteArray).size = 1 := rfl
  have k9 : (⟨#[125]⟩ : ByteArray).size = 1 := rfl
  have ka : (⟨#[91]⟩ : ByteArray).size = 1 := rfl
  have kb : (⟨#[93]⟩ : ByteArray).size = 1 := rfl
  unfold nodeP
  repeat' split
  all_goals simp only [ByteArray.size_append, k1, k2, k3, k4, k5, k6, k7, k8, k9, ka, kb]; omega
theorem shownP_len {h : List GCell} (H : Short h) : ∀ (d : Nat) (v : GVal), v.s.size ≤ 1048576 → (shownP h d v).size ≤ shB d := by
  intro d
  induction d with
  | zero => intro v hv; exact leafP_len hv (by show 1 ≤ _; decide) (by decide)
  | succ d ih =>
    intro v hv
    have hg := H.get v.n.toNat
    have h1 : ∀ d, 4194400 ≤ shB d := fun d => by induction d with
      | zero => decide
      | succ d ih => show _ ≤ 2 * shB d + 1048700; omega
    exact leafP_len hv (nodeP_len hg.1 (ih _ hg.2.1) (ih _ hg.2.2)) (h1 (d + 1))

set_option maxRecDepth 100000 in
set_option maxHeartbeats 4000000 in
theorem shown_leaf (v : GVal) (d : Nat) (t : ByteArray) (n : Int) (hv : valOk v n = true) (h6 : v.kind ≠ 6) (hs : v.s.size ≤ 1048576) (u : Value) (w : World) :
    Calls Try.prog 64 #[u, .agg #[.int .i64 v.kind, .int .i64 v.n, .string v.s], .int .i64 (d : Int)] w fun e w' => e = .returned (.string (leafP v t)) ∧ Below w.heap.size w w' := by
  obtain ⟨k, m, s⟩ := v
  dsimp only at *
  have hk : k = 1 ∨ k = 2 ∨ k = 3 ∨ k = 4 ∨ k = 5 ∨ k = 7 := by
    unfold valOk at hv
    dsimp only at hv
    repeat' split at hv
    all_goals first | omega | cases hv
  have hn : k = 1 → I64 m := fun h => by subst h; unfold valOk at hv; simp at hv; constructor <;> omega
  clear hv
  have cq := fun W => impl_Quote_c s (by omega) W
  replace cq := Lib.hid cq
  have l1 : (9223372036854775807 < 1 + s.size) = False := by simp; omega
  have l2 : (9223372036854775807 < 1 + s.size + 1) = False := by simp; omega
  rcases hk with rfl | rfl | rfl | rfl | rfl | rfl
  · have cn := fun W => impl_NumText_c m (hn rfl) W
    replace cn := Lib.hid cn
    go_enter Try.func64, Try.ntmps64
    go_upto_region 1 with fail
    have D : RowAt (w.alloc (.cells #[.int .i64 1, .int .i64 m, .string s] 28)) (w.heap.size) 0 [.int .i64 1, .int .i64 m, .string s] := RowAt.box w #[.int .i64 1, .int .i64 m, .string s] 28
    have hw : Below w.heap.size w (w.alloc (.cells #[.int .i64 1, .int .i64 m, .string s] 28)) := by go_grown
    generalize (w.alloc (.cells #[.int .i64 1, .int .i64 m, .string s] 28)) = w0 at *
    obtain ⟨d_0, d_1, d_2⟩ := D.box3; have hsD := World.block_lt_of_cell? _ _ d_0; dsimp only at hsD
    go_wp2_with (go_at_call 82; (with_reducible refine (cn.out _).mono ?_); rintro e w1 ⟨rfl, hb⟩; have hw1 := hw.trans (hb.mono hw.size))
    go_returns
    exact ⟨rfl, hw1⟩
  · go_enter Try.func64, Try.ntmps64
    go_upto_region 1 with fail
    have D : RowAt (w.alloc (.cells #[.int .i64 2, .int .i64 m, .string s] 28)) (w.heap.size) 0 [.int .i64 2, .int .i64 m, .string s] := RowAt.box w #[.int .i64 2, .int .i64 m, .string s] 28
    have hw : Below w.heap.size w (w.alloc (.cells #[.int .i64 2, .int .i64 m, .string s] 28)) := by go_grown
    generalize (w.alloc (.cells #[.int .i64 2, .int .i64 m, .string s] 28)) = w0 at *
    obtain ⟨d_0, d_1, d_2⟩ := D.box3; have hsD := World.block_lt_of_cell? _ _ d_0; dsimp only at hsD
    go_wp2_with (go_at_call 83; (with_reducible refine (cq.out _).mono ?_); rintro e w1 ⟨rfl, hb⟩; have hw1 := hw.trans (hb.mono hw.size))
    go_returns
    exact ⟨rfl, hw1⟩
  all_goals
    go_enter Try.func64, Try.ntmps64
    go_wp2
    go_returns
    exact ⟨rfl, by go_grown⟩
end Go.Proofs.Ytajbgkpjmgmdhaa

/- shown: the cells; Show. -/
namespace Go.Proofs.Ytajbgkpjmgmdhaa
open Go.RowKit
set_option linter.unusedVariables false
set_option linter.unusedSimpArgs false
attribute [local go_sem] Ext.cell

theorem cellOk_parts {c : GCell} {n : Int} (h : cellOk c n = true) : 1 ≤ c.kind ∧ c.kind ≤ 6 ∧ valOk c.a n = true ∧ (c.kind = 2 ∨ c.kind = 6 → valOk c.b n = true) := by
  unfold cellOk at h
  simp only [Bool.and_eq_true, decide_eq_true_eq] at h
  refine ⟨h.1.1.1.1.1, h.1.1.1.1.2, h.1.1.1.2, fun hk => ?_⟩
  have := h.1.1.2
  rwa [if_pos hk] at this
theorem shownP_succ (h : List GCell) (d : Nat) (v : GVal) : shownP h (d + 1) v = leafP v (nodeP (h.getD v.n.toNat zeroG) (shownP h d (h.getD v.n.toNat zeroG).a) (shownP h d (h.getD v.n.toNat zeroG).b)) := rfl

set_option maxRecDepth 100000 in
set_option maxHeartbeats 4000000 in
theorem shown_c (h : List GCell) (H : Short h) (hok : h.all (fun c => cellOk c h.length) = true) (hl : h.length ≤ 1048576) : ∀ (d : Nat), d ≤ 12 → ∀ (v : GVal), valOk v h.length = true → v.s.size ≤ 1048576 → ∀ (u : Value) (lo : Nat) (w : World), Sl GCell.R 9 lo w u h →
    Calls Try.prog 64 #[u, .agg #[.int .i64 v.kind, .int .i64 v.n, .string v.s], .int .i64 (d : Int)] w fun e w' => e = .returned (.string (shownP h d v)) ∧ Below w.heap.size w w' := by
  intro d
  induction d with
  | zero =>
    intro _ v hv hs u lo w hu
    by_cases h6 : v.kind = 6
    · obtain ⟨j, e, hj⟩ := valOk_cell hv h6
      obtain ⟨k, m, s⟩ := v
      dsimp only at *
      subst h6; subst e
      obtain ⟨a, c, rfl⟩ := hu.form
      clear hu
      go_enter Try.func64, Try.ntmps64
      go_wp2
      go_returns
      exact ⟨rfl, by go_grown⟩
    · exact shown_leaf v 0 _ _ hv h6 hs u w
  | succ d ih =>
    intro hd v hv hs u lo w hu
    by_cases h6 : v.kind = 6
    · obtain ⟨j, e, hj⟩ := valOk_cell hv h6
      obtain ⟨k, m, s⟩ := v
      dsimp only at *
      subst h6; subst e
      have Hu := hu
      obtain ⟨ua, uc, rfl, l0, m0, h0⟩ := hu
      obtain ⟨n, hn⟩ : ∃ n, n = h.length := ⟨_, rfl⟩
      obtain ⟨b1, o1, c, s1, _, rfl, P1, ⟨rfl, hcw⟩, r1⟩ := h0.get rfl hj
      have hcok := cellOk_parts (List.all_eq_true.1 hok c (List.mem_of_getElem? P1.out))
      have hcs := H c (List.mem_of_getElem? P1.out)
      have hg : h.getD j zeroG = c := by rw [List.getD_eq_getElem?_getD, P1.out]; rfl
      have ca := fun W (hW : Below w.heap.size w W) => ih (by omega) c.a hcok.2.2.1 hcs.2.1 _ lo W (Hu.below GCell.good hW)
      have cb := fun (hk : c.kind = 2 ∨ c.kind = 6) W (hW : Below w.heap.size w W) => ih (by omega) c.b (hcok.2.2.2 hk) hcs.2.2 _ lo W (Hu.below GCell.good hW)
      have hla := shownP_len H d c.a hcs.2.1
      have hlb := shownP_len H d c.b hcs.2.2
      have hsb := shB_le d (by omega)
      have hres : shownP h (d + 1) ⟨6, (j : Int), s⟩ = nodeP c (shownP h d c.a) (shownP h d c.b) := by
        rw [shownP_succ]
        show nodeP (h.getD ((j : Int).toNat) zeroG) _ _ = _
        rw [Int.toNat_natCast, hg]
      rw [hres]
      generalize shownP h d c.a = sa at *
      generalize shownP h d c.b = sb at *
      have hk1 := hcok.1; have hk2 := hcok.2.1
      have hcn : I64 c.n := hcw.2.1
      have nt := fun W => impl_NumText_c c.n hcn W
      have hnl := numText_len c.n
      generalize htn : numText c.n = tn at *
      replace htn := Lib.hid htn
      have hdd : (d : Int) ≤ 12 := by omega
      simp only [← hn] at ca cb hj ⊢
      replace hn := Lib.hid hn
      replace ca := Lib.hid ca; replace cb := Lib.hid cb; replace nt := Lib.hid nt
      clear ih hv hs hok H hl hcok hres Hu hcw hg h0 hd
      go_enter Try.func64, Try.ntmps64
      go_upto_region 1 with fail
      have D : RowAt (w.alloc (.cells #[.int .i64 6, .int .i64 (j : Int), .string s] 28)) (w.heap.size) 0 [.int .i64 6, .int .i64 (j : Int), .string s] := RowAt.box w #[.int .i64 6, .int .i64 (j : Int), .string s] 28
      have hw : Below w.heap.size w (w.alloc (.cells #[.int .i64 6, .int .i64 (j : Int), .string s] 28)) := by go_grown
      generalize (w.alloc (.cells #[.int .i64 6, .int .i64 (j : Int), .string s] 28)) = w0 at *
      obtain ⟨d_0, d_1, d_2⟩ := D.box3; have hsD := World.block_lt_of_cell? _ _ d_0; dsimp only at hsD
      have hs0 := hw.size
      obtain ⟨e_0, e_1, e_2, e_3, e_4, e_5, e_6, e_7, e_8⟩ := (r1.below hw).cells9
      clear r1
      go_upto_region 17 with fail
      obtain ⟨w1, hW1⟩ : ∃ W, W = w0.alloc (.cells #[.int .i64 c.kind, .int .i64 c.n, .string c.s, .int .i64 c.a.kind, .int .i64 c.a.n, .string c.a.s, .int .i64 c.b.kind, .int .i64 c.b.n, .string c.b.s] 30) := ⟨_, rfl⟩
      rw [← hW1]
      have hb1 : Below w0.heap.size w0 w1 := by rw [hW1]; go_grown
      have C : RowAt w1 w0.heap.size 0 [.int .i64 c.kind, .int .i64 c.n, .string c.s, .int .i64 c.a.kind, .int .i64 c.a.n, .string c.a.s, .int .i64 c.b.kind, .int .i64 c.b.n, .string c.b.s] := by rw [hW1]; exact RowAt.box w0 #[_, _, _, _, _, _, _, _, _] _
      have hw1 := hw.trans (hb1.mono hw.size)
      clear hW1 hb1 D hw hsD d_0 d_1 d_2
      generalize w0.heap.size = g at *
      obtain ⟨c_0, c_1, c_2, c_3, c_4, c_5, c_6, c_7, c_8⟩ := C.box9; have hsC := World.block_lt_of_cell? _ _ c_0; dsimp only at hsC
      have hs1 := hw1.size
      go_upto_region 18 with (go_at_call 64; (with_reducible refine (ca.out _ hw1).mono ?_); rintro e w2 ⟨rfl, hb⟩; have hw2 := hw1.trans (hb.mono hw1.size); have C2 := C.below hb)
      clear hb C hs1
      have hs2 := hw2.size
      have hk : c.kind = 1 ∨ c.kind = 2 ∨ c.kind = 3 ∨ c.kind = 4 ∨ c.kind = 5 ∨ c.kind = 6 := by omega
      have hcl := hcs.1
      clear hcs
      rcases hk with e | e | e | e | e | e
      · rw [e] at C2
        have m1 : (9223372036854775807 < 1 + c.s.size) = False := by simp; omega
        have m2 : (9223372036854775807 < 1 + c.s.size + 1) = False := by simp; omega
        have m3 : (9223372036854775807 < 1 + c.s.size + 1 + sa.size) = False := by simp; omega
        have m4 : (9223372036854775807 < 1 + c.s.size + 1 + sa.size + 1) = False := by simp; omega
        obtain ⟨c2_0, c2_1, c2_2, c2_3, c2_4, c2_5, c2_6, c2_7, c2_8⟩ := C2.box9; have hsC2 := World.block_lt_of_cell? _ _ c2_0; dsimp only at hsC2
        go_wp2_with fail
        go_returns
        refine ⟨?_, hw2⟩
        unfold nodeP
        simp only [e]
        try rw [htn.out]
        rfl
      · rw [e] at C2
        have m1 : (9223372036854775807 < 1 + sa.size) = False := by simp; omega
        have m2 : (9223372036854775807 < 1 + sa.size + 2) = False := by simp; omega
        have m3 : (9223372036854775807 < 1 + sa.size + 2 + sb.size) = False := by simp; omega
        have m4 : (9223372036854775807 < 1 + sa.size + 2 + sb.size + 1) = False := by simp; omega
        obtain ⟨c2_0, c2_1, c2_2, c2_3, c2_4, c2_5, c2_6, c2_7, c2_8⟩ := C2.box9; have hsC2 := World.block_lt_of_cell? _ _ c2_0; dsimp only at hsC2
        go_wp2_with (go_at_call 64; (with_reducible refine (cb.out (by omega) _ hw2).mono ?_); rintro e w3 ⟨rfl, hb3⟩; have hw3 := hw2.trans (hb3.mono hw2.size))
        go_returns
        refine ⟨?_, hw3⟩
        unfold nodeP
        simp only [e]
        try rw [htn.out]
        rfl
      · rw [e] at C2
        have m1 : (9223372036854775807 < 5 + tn.size) = False := by simp; omega
        have m2 : (9223372036854775807 < 5 + tn.size + 1) = False := by simp; omega
        have m3 : (9223372036854775807 < 5 + tn.size + 1 + sa.size) = False := by simp; omega
        have m4 : (9223372036854775807 < 5 + tn.size + 1 + sa.size + 1) = False := by simp; omega
        obtain ⟨c2_0, c2_1, c2_2, c2_3, c2_4, c2_5, c2_6, c2_7, c2_8⟩ := C2.box9; have hsC2 := World.block_lt_of_cell? _ _ c2_0; dsimp only at hsC2
        go_wp2_with (go_at_call 82; (with_reducible refine (nt.out _).mono ?_); rintro e w3 ⟨rfl, hb3⟩; have hw3 := hw2.trans (hb3.mono hw2.size); have C3 := C2.below hb3; obtain ⟨c3_0, c3_1, c3_2, c3_3, c3_4, c3_5, c3_6, c3_7, c3_8⟩ := C3.box9; have hsC3 := World.block_lt_of_cell? _ _ c3_0; dsimp only at hsC3)
        go_returns
        refine ⟨?_, hw3⟩
        unfold nodeP
        simp only [e]
        try rw [htn.out]
        rfl
      · rw [e] at C2
        have m1 : (9223372036854775807 < 5 + tn.size) = False := by simp; omega
        have m2 : (9223372036854775807 < 5 + tn.size + 1) = False := by simp; omega
        have m3 : (9223372036854775807 < 5 + tn.size + 1 + sa.size) = False := by simp; omega
        have m4 : (9223372036854775807 < 5 + tn.size + 1 + sa.size + 1) = False := by simp; omega
        obtain ⟨c2_0, c2_1, c2_2, c2_3, c2_4, c2_5, c2_6, c2_7, c2_8⟩ := C2.box9; have hsC2 := World.block_lt_of_cell? _ _ c2_0; dsimp only at hsC2
        go_wp2_with (go_at_call 82; (with_reducible refine (nt.out _).mono ?_); rintro e w3 ⟨rfl, hb3⟩; have hw3 := hw2.trans (hb3.mono hw2.size); have C3 := C2.below hb3; obtain ⟨c3_0, c3_1, c3_2, c3_3, c3_4, c3_5, c3_6, c3_7, c3_8⟩ := C3.box9; have hsC3 := World.block_lt_of_cell? _ _ c3_0; dsimp only at hsC3)
        go_returns
        refine ⟨?_, hw3⟩
        unfold nodeP
        simp only [e]
        try rw [htn.out]
        rfl
      · rw [e] at C2
        have m1 : (9223372036854775807 < 1 + sa.size) = False := by simp; omega
        have m2 : (9223372036854775807 < 1 + sa.size + 1) = False := by simp; omega
        obtain ⟨c2_0, c2_1, c2_2, c2_3, c2_4, c2_5, c2_6, c2_7, c2_8⟩ := C2.box9; have hsC2 := World.block_lt_of_cell? _ _ c2_0; dsimp only at hsC2
        go_wp2_with fail
        go_returns
        refine ⟨?_, hw2⟩
        unfold nodeP
        simp only [e]
        try rw [htn.out]
        rfl
      · rw [e] at C2
        have m1 : (9223372036854775807 < 1 + sa.size) = False := by simp; omega
        have m2 : (9223372036854775807 < 1 + sa.size + 1) = False := by simp; omega
        have m3 : (9223372036854775807 < 1 + sa.size + 1 + sb.size) = False := by simp; omega
        have m4 : (9223372036854775807 < 1 + sa.size + 1 + sb.size + 1) = False := by simp; omega
        obtain ⟨c2_0, c2_1, c2_2, c2_3, c2_4, c2_5, c2_6, c2_7, c2_8⟩ := C2.box9; have hsC2 := World.block_lt_of_cell? _ _ c2_0; dsimp only at hsC2
        go_wp2_with (go_at_call 64; (with_reducible refine (cb.out (by omega) _ hw2).mono ?_); rintro e w3 ⟨rfl, hb3⟩; have hw3 := hw2.trans (hb3.mono hw2.size))
        go_returns
        refine ⟨?_, hw3⟩
        unfold nodeP
        simp only [e]
        try rw [htn.out]
        rfl
    · exact shown_leaf v (d + 1) _ _ hv h6 hs u w
end Go.Proofs.Ytajbgkpjmgmdhaa

/- Show. -/
namespace Go.Proofs.Ytajbgkpjmgmdhaa
open Go.RowKit
set_option linter.unusedVariables false
set_option linter.unusedSimpArgs false
attribute [local go_sem] Ext.cell

def showP (h : List GCell) (v : GVal) (d : Nat) : ByteArray := if heapOk h [v] then shownP h d v else ⟨#[]⟩

theorem sl_one (W : World) (v : GVal) (hv : v.wf) (ty : TypeId) : Sl GVal.R 3 W.heap.size (W.alloc (.cells #[.int .i64 v.kind, .int .i64 v.n, .string v.s] ty)) (.slice (some ⟨W.heap.size, 0, none⟩) 1 1) [v] := by
  refine ⟨_, 1, rfl, Nat.le_refl _, by decide, fun _ => ⟨W.heap.size, 0, Nat.le_refl _, rfl, fun i x hx => ?_⟩⟩
  cases i with
  | zero =>
    obtain rfl : v = x := by simpa using hx
    refine ⟨_, ⟨rfl, hv⟩, ?_⟩
    have := RowAt.box W #[.int .i64 v.kind, .int .i64 v.n, .string v.s] ty
    simpa using this
  | succ i => simp at hx
set_option maxRecDepth 100000 in
set_option maxHeartbeats 4000000 in
theorem Show5_c (h : List GCell) (v : GVal) (H : Short h) (hv : v.wf) (hs : v.s.size ≤ 1048576) (hl : h.length ≤ 1048576) (u : Value) (lo : Nat) (w : World) (hu : Sl GCell.R 9 lo w u h) :
    Calls Try.prog 25 #[u, .agg #[.int .i64 v.kind, .int .i64 v.n, .string v.s], .int .i64 5] w fun e w' => e = .returned (.string (showP h v 5)) ∧ Below w.heap.size w w' := by
  have c1 := fun W u1 lo1 (hW : Below w.heap.size w W) (h1 : Sl GVal.R 3 lo1 W u1 [v]) => heapOk_c h [v] u u1 lo lo1 hl W (hu.below GCell.good hW) h1
  have c2 := fun (hok : heapOk h [v] = true) W (hW : Below w.heap.size w W) => shown_c h H (by unfold heapOk at hok; simp only [Bool.and_eq_true] at hok; exact hok.2.1) hl 5 (by omega) v (by unfold heapOk at hok; simp only [Bool.and_eq_true] at hok; simpa using hok.2.2) hs u lo W (hu.below GCell.good hW)
  unfold showP
  generalize hq : heapOk h [v] = q at *
  obtain ⟨a, c, rfl⟩ := hu.form
  replace c1 := Lib.hid c1; replace c2 := Lib.hid c2; replace hq := Lib.hid hq; replace hv := Lib.hid hv
  generalize shownP h 5 v = t at *
  clear hu H hl
  go_enter Try.func25, Try.ntmps25
  go_upto_region 1 with fail
  have D : RowAt (w.alloc (.cells #[.int .i64 v.kind, .int .i64 v.n, .string v.s] 28)) (w.heap.size) 0 [.int .i64 v.kind, .int .i64 v.n, .string v.s] := RowAt.box w #[.int .i64 v.kind, .int .i64 v.n, .string v.s] 28
  have hw : Below w.heap.size w (w.alloc (.cells #[.int .i64 v.kind, .int .i64 v.n, .string v.s] 28)) := by go_grown
  generalize (w.alloc (.cells #[.int .i64 v.kind, .int .i64 v.n, .string v.s] 28)) = w0 at *
  obtain ⟨d_0, d_1, d_2⟩ := D.box3; have hsD := World.block_lt_of_cell? _ _ d_0; dsimp only at hsD
  have hs0 := hw.size

  have hb1 : ∀ ty, Below w0.heap.size w0 (w0.alloc (.cells #[.int .i64 v.kind, .int .i64 v.n, .string v.s] ty)) := fun ty => by go_grown
  cases q
  · go_wp2_with (go_at_call 63; (with_reducible refine (c1.out _ _ w0.heap.size (hw.trans ((hb1 _).mono hs0)) (sl_one w0 v hv.out _)).mono ?_); rintro e w1 ⟨rfl, hb⟩; have hw1 := hw.trans (((hb1 _).trans (hb.mono (by simp))).mono hs0))
    go_returns
    exact ⟨rfl, hw1⟩
  · have c2' := c2.out rfl
    simp only [show ((5 : Nat) : Int) = 5 from rfl] at c2'
    replace c2' := Lib.hid c2'
    go_wp2_with (first
      | (go_at_call 63; (with_reducible refine (c1.out _ _ w0.heap.size (hw.trans ((hb1 _).mono hs0)) (sl_one w0 v hv.out _)).mono ?_); rintro e w1 ⟨rfl, hb⟩; have hb2 := (hb1 _).trans (hb.mono (by simp)); have hw1 := hw.trans (hb2.mono hs0); have D1 := D.below hb2; obtain ⟨d1_0, d1_1, d1_2⟩ := D1.box3; have hsD1 := World.block_lt_of_cell? _ _ d1_0; dsimp only at hsD1)
      | (go_at_call 64; (with_reducible refine (c2'.out _ hw1).mono ?_); rintro e w2 ⟨rfl, hbb⟩; have hw2 := hw1.trans (hbb.mono hw1.size)))
    go_returns
    exact ⟨rfl, hw2⟩
end Go.Proofs.Ytajbgkpjmgmdhaa
