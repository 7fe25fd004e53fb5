/- Parts of the proof, merged: Order2, DataOk, DataOk2, Tree. -/
import Derived.Laws.EntriesVeiled
import Derived.Test.YtcjoheplilaccaaGreatLt4
/- The program's inOrder. -/
namespace Go.Proofs.YtcjoheplilaccaaGreat
open Go.RowKit
set_option linter.unusedVariables false
set_option linter.unusedSimpArgs false
attribute [local go_sem] Ext.cell

set_option maxRecDepth 100000 in
set_option maxHeartbeats 4000000 in
theorem inOrder_c (n : Nat) (hn : n ≤ 1152921504606846976) (K : Nat → List Int) (g : Nat) (lb : Array Value) (lo : Nat) (w : World) (hk : KidsGive n K g lb lo w) (eg : ∀ args w, (callFunc g args).run Tryz.prog w = .ok (.enter g args) w) :
    Calls Tryz.prog 105 #[.int .i64 n, .func (.func g) #[] lb] w fun e w' => e = .returned (.bool (decide (endsK n K (n + 1) 0 = n))) ∧ Below w.heap.size w w' := by
  have hw0 := walk_c n hn K g lb lo w hk eg (w.heap.size + 1 + 1) w.heap.size (w.heap.size + 1) (w.heap.size + 1 + 1 + 1) (by omega) (by omega) (by omega) (n + 1) 0 0
  replace hw0 := Lib.hid hw0
  clear hk
  go_enter Tryz.func105, Tryz.ntmps105
  go_upto_region 4 with fail
  have hfz : ((((w.alloc (.cells #[.int .i64 n] 3)).alloc (.cells #[.func (.func g) #[] lb] 141)).alloc (.cells #[.int .i64 0] 3)).alloc (.cells #[.func (.func 120) #[] #[.pointer (some ⟨w.heap.size + 1 + 1, 0, none⟩), .pointer (some ⟨w.heap.size, 0, none⟩), .pointer (some ⟨w.heap.size + 1, 0, none⟩), .pointer (some ⟨w.heap.size + 1 + 1 + 1, 0, none⟩)]] 148)).frozen? ⟨w.heap.size + 1 + 1, 0, none⟩ = false := by go_simp
  have B1 : RowAt (w.alloc (.cells #[.int .i64 n] 3)) (w.heap.size) 0 [.int .i64 n] := RowAt.box w #[.int .i64 n] 3
  have B1 := B1.below (show Below (w.alloc (.cells #[.int .i64 n] 3)).heap.size (w.alloc (.cells #[.int .i64 n] 3)) ((w.alloc (.cells #[.int .i64 n] 3)).alloc (.cells #[.func (.func g) #[] lb] 141)) by go_grown)
  have B2 : RowAt ((w.alloc (.cells #[.int .i64 n] 3)).alloc (.cells #[.func (.func g) #[] lb] 141)) (w.heap.size + 1) 0 [.func (.func g) #[] lb] := by have h := RowAt.box (w.alloc (.cells #[.int .i64 n] 3)) #[.func (.func g) #[] lb] 141; simp only [World.size_alloc] at h; exact h
  have B1 := B1.below (show Below ((w.alloc (.cells #[.int .i64 n] 3)).alloc (.cells #[.func (.func g) #[] lb] 141)).heap.size ((w.alloc (.cells #[.int .i64 n] 3)).alloc (.cells #[.func (.func g) #[] lb] 141)) (((w.alloc (.cells #[.int .i64 n] 3)).alloc (.cells #[.func (.func g) #[] lb] 141)).alloc (.cells #[.int .i64 0] 3)) by go_grown)
  have B2 := B2.below (show Below ((w.alloc (.cells #[.int .i64 n] 3)).alloc (.cells #[.func (.func g) #[] lb] 141)).heap.size ((w.alloc (.cells #[.int .i64 n] 3)).alloc (.cells #[.func (.func g) #[] lb] 141)) (((w.alloc (.cells #[.int .i64 n] 3)).alloc (.cells #[.func (.func g) #[] lb] 141)).alloc (.cells #[.int .i64 0] 3)) by go_grown)
  have B3 : RowAt (((w.alloc (.cells #[.int .i64 n] 3)).alloc (.cells #[.func (.func g) #[] lb] 141)).alloc (.cells #[.int .i64 0] 3)) (w.heap.size + 1 + 1) 0 [.int .i64 0] := by have h := RowAt.box ((w.alloc (.cells #[.int .i64 n] 3)).alloc (.cells #[.func (.func g) #[] lb] 141)) #[.int .i64 0] 3; simp only [World.size_alloc] at h; exact h
  have B1 := B1.below (show Below (((w.alloc (.cells #[.int .i64 n] 3)).alloc (.cells #[.func (.func g) #[] lb] 141)).alloc (.cells #[.int .i64 0] 3)).heap.size (((w.alloc (.cells #[.int .i64 n] 3)).alloc (.cells #[.func (.func g) #[] lb] 141)).alloc (.cells #[.int .i64 0] 3)) ((((w.alloc (.cells #[.int .i64 n] 3)).alloc (.cells #[.func (.func g) #[] lb] 141)).alloc (.cells #[.int .i64 0] 3)).alloc (.cells #[.func (.func 120) #[] #[.pointer (some ⟨w.heap.size + 1 + 1, 0, none⟩), .pointer (some ⟨w.heap.size, 0, none⟩), .pointer (some ⟨w.heap.size + 1, 0, none⟩), .pointer (some ⟨w.heap.size + 1 + 1 + 1, 0, none⟩)]] 148)) by go_grown)
  have B2 := B2.below (show Below (((w.alloc (.cells #[.int .i64 n] 3)).alloc (.cells #[.func (.func g) #[] lb] 141)).alloc (.cells #[.int .i64 0] 3)).heap.size (((w.alloc (.cells #[.int .i64 n] 3)).alloc (.cells #[.func (.func g) #[] lb] 141)).alloc (.cells #[.int .i64 0] 3)) ((((w.alloc (.cells #[.int .i64 n] 3)).alloc (.cells #[.func (.func g) #[] lb] 141)).alloc (.cells #[.int .i64 0] 3)).alloc (.cells #[.func (.func 120) #[] #[.pointer (some ⟨w.heap.size + 1 + 1, 0, none⟩), .pointer (some ⟨w.heap.size, 0, none⟩), .pointer (some ⟨w.heap.size + 1, 0, none⟩), .pointer (some ⟨w.heap.size + 1 + 1 + 1, 0, none⟩)]] 148)) by go_grown)
  have B3 := B3.below (show Below (((w.alloc (.cells #[.int .i64 n] 3)).alloc (.cells #[.func (.func g) #[] lb] 141)).alloc (.cells #[.int .i64 0] 3)).heap.size (((w.alloc (.cells #[.int .i64 n] 3)).alloc (.cells #[.func (.func g) #[] lb] 141)).alloc (.cells #[.int .i64 0] 3)) ((((w.alloc (.cells #[.int .i64 n] 3)).alloc (.cells #[.func (.func g) #[] lb] 141)).alloc (.cells #[.int .i64 0] 3)).alloc (.cells #[.func (.func 120) #[] #[.pointer (some ⟨w.heap.size + 1 + 1, 0, none⟩), .pointer (some ⟨w.heap.size, 0, none⟩), .pointer (some ⟨w.heap.size + 1, 0, none⟩), .pointer (some ⟨w.heap.size + 1 + 1 + 1, 0, none⟩)]] 148)) by go_grown)
  have B4 : RowAt ((((w.alloc (.cells #[.int .i64 n] 3)).alloc (.cells #[.func (.func g) #[] lb] 141)).alloc (.cells #[.int .i64 0] 3)).alloc (.cells #[.func (.func 120) #[] #[.pointer (some ⟨w.heap.size + 1 + 1, 0, none⟩), .pointer (some ⟨w.heap.size, 0, none⟩), .pointer (some ⟨w.heap.size + 1, 0, none⟩), .pointer (some ⟨w.heap.size + 1 + 1 + 1, 0, none⟩)]] 148)) (w.heap.size + 1 + 1 + 1) 0 [.func (.func 120) #[] #[.pointer (some ⟨w.heap.size + 1 + 1, 0, none⟩), .pointer (some ⟨w.heap.size, 0, none⟩), .pointer (some ⟨w.heap.size + 1, 0, none⟩), .pointer (some ⟨w.heap.size + 1 + 1 + 1, 0, none⟩)]] := by have h := RowAt.box (((w.alloc (.cells #[.int .i64 n] 3)).alloc (.cells #[.func (.func g) #[] lb] 141)).alloc (.cells #[.int .i64 0] 3)) #[.func (.func 120) #[] #[.pointer (some ⟨w.heap.size + 1 + 1, 0, none⟩), .pointer (some ⟨w.heap.size, 0, none⟩), .pointer (some ⟨w.heap.size + 1, 0, none⟩), .pointer (some ⟨w.heap.size + 1 + 1 + 1, 0, none⟩)]] 148; simp only [World.size_alloc] at h; exact h
  have hw : Below w.heap.size w ((((w.alloc (.cells #[.int .i64 n] 3)).alloc (.cells #[.func (.func g) #[] lb] 141)).alloc (.cells #[.int .i64 0] 3)).alloc (.cells #[.func (.func 120) #[] #[.pointer (some ⟨w.heap.size + 1 + 1, 0, none⟩), .pointer (some ⟨w.heap.size, 0, none⟩), .pointer (some ⟨w.heap.size + 1, 0, none⟩), .pointer (some ⟨w.heap.size + 1 + 1 + 1, 0, none⟩)]] 148)) := by go_grown
  generalize ((((w.alloc (.cells #[.int .i64 n] 3)).alloc (.cells #[.func (.func g) #[] lb] 141)).alloc (.cells #[.int .i64 0] 3)).alloc (.cells #[.func (.func 120) #[] #[.pointer (some ⟨w.heap.size + 1 + 1, 0, none⟩), .pointer (some ⟨w.heap.size, 0, none⟩), .pointer (some ⟨w.heap.size + 1, 0, none⟩), .pointer (some ⟨w.heap.size + 1 + 1 + 1, 0, none⟩)]] 148)) = w1 at *
  have e4 := B4.box1
  have hcall := hw0.out w1 ⟨by omega, by omega⟩ (by omega) ⟨hw, by omega, by omega, B3.box1, hfz, B1.box1, B2.box1, e4⟩
  clear hw0 B1 B2 B3 B4 hw hfz
  generalize hd : decide (0 ≤ endsK n K (n + 1) 0) = d
  replace hd := Lib.hid hd
  have hcall : Calls Tryz.prog 120 #[.int .i64 0, .pointer (some ⟨w.heap.size + 1 + 1, 0, none⟩), .pointer (some ⟨w.heap.size, 0, none⟩), .pointer (some ⟨w.heap.size + 1, 0, none⟩), .pointer (some ⟨w.heap.size + 1 + 1 + 1, 0, none⟩)] w1 fun e w' => ∃ z : Nat, e = .returned (.bool d) ∧ Four w n g lb (w.heap.size + 1 + 1) w.heap.size (w.heap.size + 1) (w.heap.size + 1 + 1 + 1) z w' ∧ Hid (0 ≤ endsK n K (n + 1) 0 → (z : Int) = endsK n K (n + 1) 0) :=
    hcall.mono fun e w' ⟨z, h1, h2, h3⟩ => ⟨z, by rw [← hd.out, h1]; simp, h2, fun h => h3 rfl h⟩
  cases d with
  | true =>
    have h0 := of_decide_eq_true hd.out
    by_cases hz : endsK n K (n + 1) 0 = n
    · replace hcall : Calls Tryz.prog 120 #[.int .i64 0, .pointer (some ⟨w.heap.size + 1 + 1, 0, none⟩), .pointer (some ⟨w.heap.size, 0, none⟩), .pointer (some ⟨w.heap.size + 1, 0, none⟩), .pointer (some ⟨w.heap.size + 1 + 1 + 1, 0, none⟩)] w1 fun e w' => e = .returned (.bool true) ∧ Four w n g lb (w.heap.size + 1 + 1) w.heap.size (w.heap.size + 1) (w.heap.size + 1 + 1 + 1) n w' :=
        hcall.mono fun e w' ⟨z, h1, h2, h3⟩ => ⟨h1, by have h4 := h3 h0; obtain rfl : z = n := by omega
                                                       exact h2⟩
      have d3 : ((n : Int) == n) = true := by simp
      replace hz := Lib.hid hz
      clear h0
      go_wp2_with (go_at_call 120; refine hcall.mono ?_; rintro e w2 ⟨rfl, F⟩; have e1 := F.c1; have e2 := F.c2)
      go_returns
      exact ⟨by rw [decide_eq_true hz.out]; rfl, F.below⟩
    · replace hcall : Calls Tryz.prog 120 #[.int .i64 0, .pointer (some ⟨w.heap.size + 1 + 1, 0, none⟩), .pointer (some ⟨w.heap.size, 0, none⟩), .pointer (some ⟨w.heap.size + 1, 0, none⟩), .pointer (some ⟨w.heap.size + 1 + 1 + 1, 0, none⟩)] w1 fun e w' => ∃ z : Nat, e = .returned (.bool true) ∧ Four w n g lb (w.heap.size + 1 + 1) w.heap.size (w.heap.size + 1) (w.heap.size + 1 + 1 + 1) z w' ∧ ((z : Int) == n) = false :=
        hcall.mono fun e w' ⟨z, h1, h2, h3⟩ => ⟨z, h1, h2, by have h4 := h3 h0; simp; omega⟩
      replace hz := Lib.hid hz
      clear h0
      go_wp2_with (go_at_call 120; refine hcall.mono ?_; rintro e w2 ⟨z, rfl, F, d3⟩; have e1 := F.c1; have e2 := F.c2)
      go_returns
      exact ⟨by rw [decide_eq_false hz.out]; rfl, F.below⟩
  | false =>
    have h0 := of_decide_eq_false hd.out
    have hz : ¬ endsK n K (n + 1) 0 = n := by omega
    replace hz := Lib.hid hz
    clear h0
    go_wp2_with (go_at_call 120; refine hcall.mono ?_; rintro e w2 ⟨z, rfl, F, -⟩)
    go_returns
    exact ⟨by rw [decide_eq_false hz.out]; rfl, F.below⟩

end Go.Proofs.YtcjoheplilaccaaGreat

/- DataOk: the program's. -/
namespace Go.Proofs.YtcjoheplilaccaaGreat
open Go.RowKit
set_option linter.unusedVariables false
set_option linter.unusedSimpArgs false
attribute [local go_sem] Ext.cell

theorem kidsEnd_all {E : Nat → Int} {L : Int} {P : Nat → Prop} (hE : ∀ k, 0 ≤ E k → (k : Int) + 1 ≤ E k ∧ E k ≤ L) (hP : ∀ k, 0 ≤ E k → ∀ j : Nat, k ≤ j → (j : Int) < E k → P j) : ∀ (ks : List Int) (nx : Int), 0 ≤ nx → 0 ≤ kidsEnd E nx ks →
    (∀ k ∈ ks, 0 ≤ k ∧ k < L) ∧ ∀ j : Nat, nx ≤ j → (j : Int) < kidsEnd E nx ks → P j
  | [], nx, h0, h => ⟨fun k hk => by simp at hk, fun j h1 h2 => by unfold kidsEnd at h2; omega⟩
  | k :: ks, nx, h0, h => by
    unfold kidsEnd at h ⊢
    split at h
    · omega
    · split at h
      · omega
      · rename_i h1 h2
        have e : k = nx := by omega
        have h3 := hE k.toNat (by omega)
        have h4 := kidsEnd_all hE hP ks (E k.toNat) (by omega) h
        rw [if_neg h1, if_neg h2]
        refine ⟨fun k' hk' => ?_, fun j h5 h6 => ?_⟩
        · rcases List.mem_cons.1 hk' with rfl | h7
          · omega
          · exact h4.1 k' h7
        · by_cases h7 : (j : Int) < E k.toNat
          · exact hP k.toNat (by omega) j (by omega) h7
          · exact h4.2 j (by omega) h6
theorem ends_kids (l : List GDNode) : ∀ (f i : Nat), 0 ≤ ends l f i → ∀ j : Nat, i ≤ j → (j : Int) < ends l f i → ∀ x, l[j]? = some x → ∀ k ∈ x.kids, 0 ≤ k ∧ k < (l.length : Int)
  | 0, i, h => by simp [ends] at h
  | f + 1, i, h => by
    unfold ends at h ⊢
    cases hi : l[i]? with
    | none => rw [hi] at h; simp at h
    | some n =>
      rw [hi] at h
      have h1 := kidsEnd_all (ends_range l f) (P := fun j => ∀ x, l[j]? = some x → ∀ k ∈ x.kids, 0 ≤ k ∧ k < (l.length : Int)) (fun k hk j h2 h3 => ends_kids l f k hk j h2 h3) n.kids (i + 1) (by omega) h
      intro j h2 h3 x hx
      by_cases e : i = j
      · subst e
        obtain rfl : n = x := Option.some.inj (hi.symm.trans hx)
        exact h1.1
      · exact h1.2 j (by omega) h3 x hx

def kidsAt (l : List GDNode) (i : Nat) : List Int := (l[i]?.map (·.kids)).getD []
def dataOk (d : GData) : Bool := decide (1 ≤ (d.nodes.length : Int) ∧ (d.nodes.length : Int) ≤ 600) && (decide (endsK d.nodes.length (kidsAt d.nodes) (d.nodes.length + 1) 0 = d.nodes.length) && !d.nodes.any fun x => !nodeOk d.nodes x)

theorem kids_in {d : GData} (h : endsK d.nodes.length (kidsAt d.nodes) (d.nodes.length + 1) 0 = d.nodes.length) {i : Nat} {x : GDNode} (hx : d.nodes[i]? = some x) : ∀ k ∈ x.kids, 0 ≤ k ∧ k < (d.nodes.length : Int) := by
  have h' : ends d.nodes (d.nodes.length + 1) 0 = d.nodes.length := by rw [ends_eq]; exact h
  have hi := (List.getElem?_eq_some_iff.1 hx).1
  exact ends_kids d.nodes (d.nodes.length + 1) 0 (by omega) i (by omega) (by omega) x hx

end Go.Proofs.YtcjoheplilaccaaGreat

/- DataOk: the reference's. -/
namespace Go.Proofs.YtcjoheplilaccaaGreat
open Go.RowKit
set_option linter.unusedVariables false
set_option linter.unusedSimpArgs false
attribute [local go_sem] Ext.cell

theorem dataOk_bad {d : GData} {i : Nat} {x : GDNode} (hx : d.nodes[i]? = some x) (h : nodeOk d.nodes x = false) : dataOk d = false := by
  have : (d.nodes.any fun x => !nodeOk d.nodes x) = true := List.any_eq_true.2 ⟨x, List.mem_of_getElem? hx, by rw [h]; rfl⟩
  unfold dataOk
  rw [this]
  simp
theorem dataOk_good {d : GData} (h0 : 1 ≤ d.nodes.length) (h6 : d.nodes.length ≤ 600) (h : ∀ y ∈ d.nodes.take d.nodes.length, nodeOk d.nodes y = true) : dataOk d = decide (ends d.nodes (d.nodes.length + 1) 0 = d.nodes.length) := by
  have : (d.nodes.any fun x => !nodeOk d.nodes x) = false := List.any_eq_false.2 fun y hy => by rw [h y (by rw [List.take_length]; exact hy)]; decide
  unfold dataOk
  rw [this, ends_eq, decide_eq_true (by omega)]
  simp
  rfl
theorem all_step {d : GData} {i : Nat} {x : GDNode} (h : ∀ y ∈ d.nodes.take i, nodeOk d.nodes y = true) (hx : d.nodes[i]? = some x) (hq : nodeOk d.nodes x = true) : ∀ y ∈ d.nodes.take (i + 1), nodeOk d.nodes y = true := by
  rw [take_snoc' hx]
  intro y hy
  rcases List.mem_append.1 hy with h' | h'
  · exact h y h'
  · simp at h'; subst h'; exact hq

theorem nodeOk_kind (l : List GDNode) (kd nn : Int) (s : ByteArray) (ks : List Int) :
    (kd = 6 ∧ nodeOk l ⟨kd, nn, s, ks⟩ = (((ks.length : Int) == 0) && ((nn == 0) && s.toList.isEmpty))) ∨
    (kd = 2 ∧ nodeOk l ⟨kd, nn, s, ks⟩ = (((ks.length : Int) == 0) && (nn == 0))) ∨
    (kd = 3 ∧ nodeOk l ⟨kd, nn, s, ks⟩ = (((ks.length : Int) == 0) && (s.toList.isEmpty && (wrap63 nn == nn)))) ∨
    (kd = 4 ∧ nodeOk l ⟨kd, nn, s, ks⟩ = ((nn == 0) && conShape s ks.length (pairOf l ks))) ∨
    (kd = 5 ∧ nodeOk l ⟨kd, nn, s, ks⟩ = (((ks.length : Int) == 2) && ((nn == 0) && s.toList.isEmpty))) ∨
    ((kd == 6) = false ∧ (kd == 2) = false ∧ (kd == 3) = false ∧ (kd == 4) = false ∧ (kd == 5) = false ∧ nodeOk l ⟨kd, nn, s, ks⟩ = false) := by
  unfold nodeOk
  dsimp only
  by_cases h6 : kd = 6
  · subst h6; exact .inl ⟨rfl, rfl⟩
  by_cases h2 : kd = 2
  · subst h2; exact .inr (.inl ⟨rfl, rfl⟩)
  by_cases h3 : kd = 3
  · subst h3
    refine .inr (.inr (.inl ⟨rfl, ?_⟩))
    have : (wrap63 nn == nn) = decide (-4611686018427387904 ≤ nn ∧ nn ≤ 4611686018427387903) := by
      show decide (wrap63 nn = nn) = _
      simp only [wrap63_eq]
    rw [this, if_pos rfl]
  by_cases h4 : kd = 4
  · subst h4; exact .inr (.inr (.inr (.inl ⟨rfl, rfl⟩)))
  by_cases h5 : kd = 5
  · subst h5; exact .inr (.inr (.inr (.inr (.inl ⟨rfl, rfl⟩))))
  refine .inr (.inr (.inr (.inr (.inr ⟨by simpa using h6, by simpa using h2, by simpa using h3, by simpa using h4, by simpa using h5, ?_⟩))))
  rw [if_neg h3, if_neg h2, if_neg h6, if_neg h5, if_neg h4]

end Go.Proofs.YtcjoheplilaccaaGreat

/- Trees of patterns and values behind pointers: how they read. -/
namespace Go.Proofs.YtcjoheplilaccaaGreat
open Go.RowKit
set_option linter.unusedVariables false
set_option linter.unusedSimpArgs false

inductive PxT where
  | mk (kind n : Int) (s : ByteArray) (kids : List PxT)
def PxT.kind : PxT → Int | .mk k _ _ _ => k
def PxT.n : PxT → Int | .mk _ n _ _ => n
def PxT.s : PxT → ByteArray | .mk _ _ s _ => s
def PxT.kids : PxT → List PxT | .mk _ _ _ ks => ks
def PxT.wf (t : PxT) : Prop := I64 t.kind ∧ I64 t.n ∧ StrOk t.s

/-- v points to a tree of at most f levels; each block that it leads to is in S. -/
def PxR : Nat → (Nat → Prop) → World → Value → PxT → Prop
  | 0, _, _, _, _ => False
  | f + 1, S, w, v, t => ∃ b a cap, v = .pointer (some ⟨b, 0, none⟩) ∧ S b ∧ t.wf ∧ RowAt w b 0 [.int .i64 t.kind, .int .i64 t.n, .string t.s, .slice a t.kids.length cap] ∧ t.kids.length ≤ cap ∧ cap ≤ 9223372036854775807 ∧
      (0 < t.kids.length → ∃ g off, a = some ⟨g, off, none⟩ ∧ S g ∧ ∀ i k, t.kids[i]? = some k → ∃ p, w.cell? ⟨g, off + i, none⟩ = some p ∧ PxR f S w p k)

def Same (S : Nat → Prop) (w w' : World) : Prop := ∀ b, S b → b < w.heap.size → w'.heap[b]? = w.heap[b]?
theorem Same.cell {S : Nat → Prop} {w w' : World} (h : Same S w w') {b o : Nat} {v : Value} (hS : S b) (hc : w.cell? ⟨b, o, none⟩ = some v) : w'.cell? ⟨b, o, none⟩ = some v := by
  rw [World.cell?_of_block (w := w) (a := ⟨b, o, none⟩) (h b hS (World.block_lt_of_cell? w _ hc)), hc]
theorem Same.below {S : Nat → Prop} {w w' : World} (h : Below w.heap.size w w') : Same S w w' := fun b _ hb => h.block b hb

theorem PxR.to : ∀ {f : Nat} {S S' : Nat → Prop} {w w' : World} {v : Value} {t : PxT}, PxR f S w v t → Same S w w' → (∀ b, S b → b < w.heap.size → S' b) → PxR f S' w' v t
  | 0, _, _, _, _, _, _, h, _, _ => h
  | f + 1, S, S', w, w', v, t, ⟨b, a, cap, hv, hS, hwf, hr, h1, h2, h3⟩, hs, hi =>
    ⟨b, a, cap, hv, hi b hS (World.block_lt_of_cell? w _ (hr 0 _ rfl)), hwf, fun j c hc => hs.cell hS (hr j c hc), h1, h2, fun h0 =>
      let ⟨g, off, ha, hg, hk⟩ := h3 h0
      ⟨g, off, ha, by
        obtain ⟨k, hk0⟩ : ∃ k, t.kids[0]? = some k := ⟨_, List.getElem?_eq_getElem h0⟩
        obtain ⟨p, hp, _⟩ := hk 0 k hk0
        exact hi g hg (World.block_lt_of_cell? w _ hp), fun i k hik =>
          let ⟨p, hp, hR⟩ := hk i k hik
          ⟨p, hs.cell hg hp, hR.to hs hi⟩⟩⟩
theorem PxR.below {f : Nat} {S : Nat → Prop} {w w' : World} {v : Value} {t : PxT} (h : PxR f S w v t) (hb : Below w.heap.size w w') : PxR f S w' v t := h.to (Same.below hb) fun _ h _ => h
theorem PxR.form {f : Nat} {S : Nat → Prop} {w : World} {v : Value} {t : PxT} (h : PxR f S w v t) : ∃ b, v = .pointer (some ⟨b, 0, none⟩) := by
  cases f with
  | zero => exact absurd h (by simp [PxR])
  | succ f => obtain ⟨b, _, _, hv, _⟩ := h; exact ⟨b, hv⟩

/-- The tree of a value's node. -/
def treeOf (l : List GDNode) : Nat → Nat → PxT
  | 0, _ => .mk 0 0 ByteArray.empty []
  | f + 1, i => match l[i]? with
    | none => .mk 0 0 ByteArray.empty []
    | some x => .mk x.kind x.n x.s (x.kids.map fun k => treeOf l f k.toNat)
theorem treeOf_some {l : List GDNode} {f i : Nat} {x : GDNode} (h : l[i]? = some x) : treeOf l (f + 1) i = .mk x.kind x.n x.s (x.kids.map fun k => treeOf l f k.toNat) := by
  conv => lhs; unfold treeOf
  rw [h]

/-- Children stand behind their parent. -/
def Up (l : List GDNode) : Prop := ∀ (j : Nat) x, l[j]? = some x → ∀ k ∈ x.kids, (j : Int) < k ∧ k < (l.length : Int)

theorem kidsEnd_up {E : Nat → Int} {L : Int} {P : Nat → Prop} (hE : ∀ k, 0 ≤ E k → (k : Int) + 1 ≤ E k ∧ E k ≤ L) (hP : ∀ k, 0 ≤ E k → ∀ j : Nat, k ≤ j → (j : Int) < E k → P j) : ∀ (ks : List Int) (nx : Int), 0 ≤ nx → 0 ≤ kidsEnd E nx ks →
    (∀ k ∈ ks, nx ≤ k ∧ k < L) ∧ ∀ j : Nat, nx ≤ j → (j : Int) < kidsEnd E nx ks → P j
  | [], nx, h0, h => ⟨fun k hk => by simp at hk, fun j h1 h2 => by unfold kidsEnd at h2; omega⟩
  | k :: ks, nx, h0, h => by
    unfold kidsEnd at h ⊢
    split at h
    · omega
    · split at h
      · omega
      · rename_i h1 h2
        have e : k = nx := by omega
        have h3 := hE k.toNat (by omega)
        have h4 := kidsEnd_up hE hP ks (E k.toNat) (by omega) h
        rw [if_neg h1, if_neg h2]
        refine ⟨fun k' hk' => ?_, fun j h5 h6 => ?_⟩
        · rcases List.mem_cons.1 hk' with rfl | h7
          · omega
          · have := h4.1 k' h7
            omega
        · by_cases h7 : (j : Int) < E k.toNat
          · exact hP k.toNat (by omega) j (by omega) h7
          · exact h4.2 j (by omega) h6
theorem ends_up (l : List GDNode) : ∀ (f i : Nat), 0 ≤ ends l f i → ∀ j : Nat, i ≤ j → (j : Int) < ends l f i → ∀ x, l[j]? = some x → ∀ k ∈ x.kids, (j : Int) < k ∧ k < (l.length : Int)
  | 0, i, h => by simp [ends] at h
  | f + 1, i, h => by
    unfold ends at h ⊢
    cases hi : l[i]? with
    | none => rw [hi] at h; simp at h
    | some n =>
      rw [hi] at h
      have h1 := kidsEnd_up (ends_range l f) (P := fun j => ∀ x, l[j]? = some x → ∀ k ∈ x.kids, (j : Int) < k ∧ k < (l.length : Int)) (fun k hk j h2 h3 => ends_up l f k hk j h2 h3) n.kids (i + 1) (by omega) h
      intro j h2 h3 x hx
      by_cases e : i = j
      · subst e
        obtain rfl : n = x := Option.some.inj (hi.symm.trans hx)
        exact fun k hk => by have := h1.1 k hk; omega
      · exact h1.2 j (by omega) h3 x hx
theorem dataOk_up {d : GData} (h : dataOk d = true) : Up d.nodes ∧ 0 < d.nodes.length ∧ d.nodes.length ≤ 600 := by
  unfold dataOk at h
  simp only [Bool.and_eq_true, decide_eq_true_eq] at h
  obtain ⟨h1, h2, _⟩ := h
  rw [show kidsAt d.nodes = (fun i => (d.nodes[i]?.map (·.kids)).getD []) from rfl, ← ends_eq] at h2
  refine ⟨fun j x hx => ?_, by omega, by omega⟩
  have hj := (List.getElem?_eq_some_iff.1 hx).1
  exact ends_up d.nodes (d.nodes.length + 1) 0 (by omega) j (by omega) (by omega) x hx

theorem conShape_le {s : ByteArray} {k : Int} {pb : Bool} (h : conShape s k pb = true) : k ≤ 1 := by
  unfold conShape at h
  split at h
  · simp at h; omega
  · split at h
    · simp at h; omega
    · simp at h; omega
theorem nodeOk_few {l : List GDNode} {x : GDNode} (h : nodeOk l x = true) : x.kids.length ≤ 2 := by
  obtain ⟨kd, nn, s, ks⟩ := x
  show ks.length ≤ 2
  rcases nodeOk_kind l kd nn s ks with ⟨_, e⟩ | ⟨_, e⟩ | ⟨_, e⟩ | ⟨_, e⟩ | ⟨_, e⟩ | ⟨_, _, _, _, _, e⟩
  all_goals rw [h] at e; replace e := e.symm; (try simp only [Bool.and_eq_true, beq_iff_eq] at e)
  · omega
  · omega
  · omega
  · have := conShape_le e.2; omega
  · omega
  · cases e
theorem dataOk_few {d : GData} (h : dataOk d = true) : ∀ (j : Nat) x, d.nodes[j]? = some x → x.kids.length ≤ 2 := by
  unfold dataOk at h
  simp only [Bool.and_eq_true, decide_eq_true_eq, Bool.not_eq_true'] at h
  obtain ⟨h1, h2, h3⟩ := h
  intro j x hx
  rw [List.any_eq_false] at h3
  have := h3 x (List.mem_of_getElem? hx)
  exact nodeOk_few (l := d.nodes) (by simpa using this)

theorem RowAt.of_block {w w' : World} {b o : Nat} {r : List Value} (h : RowAt w b o r) (e : w'.heap[b]? = w.heap[b]?) : RowAt w' b o r := fun j c hc =>
  (World.cell?_of_block (w := w) (a := ⟨b, o + j, none⟩) e).trans (h j c hc)
theorem RowAt.set3 {w : World} {b : Nat} {a0 a1 a2 a3 : Value} (h : RowAt w b 0 [a0, a1, a2, a3]) (u : Value) : RowAt (w.setCell ⟨b, 3, none⟩ u) b 0 [a0, a1, a2, u] := by
  obtain ⟨h0, h1, h2, h3⟩ := h.box4
  intro j c hc
  match j, hc with
  | 0, hc => simp at hc; subst hc; rw [cell_setCell_ne _ _ _ _ _ (by omega)]; exact h0
  | 1, hc => simp at hc; subst hc; rw [cell_setCell_ne _ _ _ _ _ (by omega)]; exact h1
  | 2, hc => simp at hc; subst hc; rw [cell_setCell_ne _ _ _ _ _ (by omega)]; exact h2
  | 3, hc => simp at hc; subst hc; exact cell_setCell_eq _ _ _ _ h3
  | j + 4, hc => simp at hc

/-- Children laid into a slice that the call owns. -/
def KidsOwn (w : World) (base : Nat) (T : TypeId) (f : Nat) (vs : List Value) (ts : List PxT) (v : Value) : Prop :=
  vs.length = ts.length ∧ w.ownsRow base T 1 v ts.length vs ∧ ∀ (i : Nat) (p : Value) (t : PxT), vs[i]? = some p → ts[i]? = some t → PxR f (fun b => base ≤ b ∧ v.ownBlock ≠ some b) w p t
theorem KidsOwn.nil (w : World) (base : Nat) (T : TypeId) (f : Nat) : KidsOwn w base T f [] [] (.slice none 0 0) := ⟨rfl, own_none, fun i p t (h : ([] : List Value)[i]? = some p) => by simp at h⟩
theorem KidsOwn.below {w w' : World} {base : Nat} {T : TypeId} {f : Nat} {vs : List Value} {ts : List PxT} {v : Value} (h : KidsOwn w base T f vs ts v) (hb : Below w.heap.size w w') : KidsOwn w' base T f vs ts v :=
  ⟨h.1, own_below h.2.1 hb, fun i p t h1 h2 => (h.2.2 i p t h1 h2).below hb⟩
theorem KidsOwn.grow {w w1 w1' w2 : World} {base : Nat} {T : TypeId} {f : Nat} {vs : List Value} {ts : List PxT} {v p : Value} {t : PxT} {g n cap : Nat} (h : KidsOwn w base T f vs ts v) (hbase : base ≤ w.heap.size) (hb : Below w.heap.size w w1) (hb1 : Below w1.heap.size w1 w1')
    (hp : PxR f (fun b => w.heap.size ≤ b) w1 p t) (hg : w1'.grownBy w2 v.ownBlock) (hown : w2.ownsRow base T 1 (.slice (some ⟨g, 0, none⟩) n cap) n (vs ++ [p])) (hn : n = ts.length + 1) (hat : v.ownBlock = some g ∨ g = w1'.heap.size) :
    KidsOwn w2 base T f (vs ++ [p]) (ts ++ [t]) (.slice (some ⟨g, 0, none⟩) n cap) := by
  subst hn
  obtain ⟨h1, h2, h3⟩ := h
  have ob := own_base h2
  have hs1 := hb.size
  have hs2 := hb1.size
  refine ⟨by simp [h1], by simpa using hown, fun i q u hq hu => ?_⟩
  by_cases e : i = ts.length
  · subst e
    rw [List.getElem?_append_right (by omega)] at hq hu
    have hq' : p = q := by simpa [h1] using hq
    have hu' : t = u := by simpa using hu
    subst hq' hu'
    have hp1 : PxR f (fun b => w.heap.size ≤ b ∧ b < w1.heap.size) w1 p t := hp.to (Same.below (Below.refl _ _)) fun b h4 h5 => ⟨h4, h5⟩
    refine (hp1.below hb1).to (fun b h4 h5 => hg.block b h5 fun e => ?_) fun b h4 h5 => ⟨by omega, fun e => ?_⟩
    · have := (ob b e.symm).2
      omega
    · obtain rfl : g = b := by simpa [Value.ownBlock] using e
      rcases hat with h6 | h6
      · have := (ob g h6).2
        omega
      · omega
  · have hi : i < ts.length := by
      have := (List.getElem?_eq_some_iff.1 hu).1
      simp at this; omega
    rw [List.getElem?_append_left (by omega)] at hq hu
    have hp1 : PxR f (fun b => (base ≤ b ∧ v.ownBlock ≠ some b) ∧ b < w.heap.size) w q u := (h3 i q u hq hu).to (Same.below (Below.refl _ _)) fun b h4 h5 => ⟨h4, h5⟩
    refine ((hp1.below hb).below hb1).to (fun b h4 h5 => hg.block b h5 fun e => h4.1.2 e.symm) fun b h4 h5 => ⟨h4.1.1, fun e => ?_⟩
    obtain rfl : g = b := by simpa [Value.ownBlock] using e
    rcases hat with h6 | h6
    · exact h4.1.2 h6
    · omega
theorem KidsOwn.set {w : World} {base : Nat} {T : TypeId} {f : Nat} {vs : List Value} {ts : List PxT} {v : Value} (h : KidsOwn w base T f vs ts v) {b o : Nat} (hb : b < base) (u : Value) : KidsOwn (w.setCell ⟨b, o, none⟩ u) base T f vs ts v :=
  ⟨h.1, own_kept (S := fun k => k = b) h.2.1 ((Kept.refl (fun k => k = b) w).set (p := ⟨b, o, none⟩) rfl u) (fun g hg e => by have := (own_base h.2.1 g hg).1; omega), fun i p t h1 h2 =>
    (h.2.2 i p t h1 h2).to (fun k hk _ => Below.heap_setCell w ⟨b, o, none⟩ u k (by show k ≠ b; omega)) fun k hk _ => hk⟩
theorem KidsOwn.form {w : World} {base : Nat} {T : TypeId} {f : Nat} {vs : List Value} {ts : List PxT} {v : Value} (h : KidsOwn w base T f vs ts v) : ∃ a cap, v = .slice a ts.length cap := by
  rcases h.2.1.2 with ⟨rfl, h0⟩ | ⟨g, cap, cur, rfl, _⟩
  · exact ⟨none, 0, by rw [h0]⟩
  · exact ⟨_, cap, rfl⟩
/-- A block of the call's own with such children is a tree. -/
theorem KidsOwn.tree {w : World} {base lo b f : Nat} {T : TypeId} {vs : List Value} {t : PxT} {v : Value} (h : KidsOwn w base T f vs t.kids v) (hl : lo ≤ b) (hbase : lo ≤ base) (hwf : t.wf) (hr : RowAt w b 0 [.int .i64 t.kind, .int .i64 t.n, .string t.s, v]) :
    PxR (f + 1) (fun b => lo ≤ b) w (.pointer (some ⟨b, 0, none⟩)) t := by
  by_cases h0 : 0 < t.kids.length
  · obtain ⟨g, cap, rfl, h1, h2, h3, h4, h5, h6⟩ := own_cells h.2.1 h0
    refine ⟨b, _, cap, rfl, hl, hwf, hr, h3, h4, fun _ => ⟨g, 0, rfl, by omega, fun i k hk => ?_⟩⟩
    have hi := (List.getElem?_eq_some_iff.1 hk).1
    obtain ⟨p, hp⟩ : ∃ p, vs[i]? = some p := ⟨_, List.getElem?_eq_getElem (by rw [h.1]; exact hi)⟩
    exact ⟨p, h5 i p hp, (h.2.2 i p k hp hk).to (Same.below (Below.refl _ _)) fun b h _ => by omega⟩
  · obtain ⟨a, cap, rfl⟩ := h.form
    rcases h.2.1.2 with ⟨hv, _⟩ | ⟨g, cap', cur, hv, _, _, h5, h6, _⟩
    · injection hv with _ e1 e2
      subst e2
      exact ⟨b, a, 0, rfl, hl, hwf, hr, by omega, by omega, fun h => absurd h h0⟩
    · injection hv with _ e1 e2
      subst e2
      exact ⟨b, a, cap, rfl, hl, hwf, hr, h5, by unfold maxLen at h6; omega, fun h => absurd h h0⟩

end Go.Proofs.YtcjoheplilaccaaGreat
