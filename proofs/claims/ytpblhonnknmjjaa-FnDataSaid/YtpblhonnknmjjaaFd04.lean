/- Parts of the proof, merged: DataOk, DataOk2, Tree. -/
import Derived.Test.YtpblhonnknmjjaaFd03
/- DataOk: the program's. -/
namespace Go.Proofs.Ytpblhonnknmjjaa
open Go.RowKit
set_option linter.unusedVariables false
set_option linter.unusedSimpArgs false
attribute [local go_sem] Ext.cell

theorem kidsEnd_all {E : Nat → Int} {L : Int} {P : Nat → Prop} (hE : ∀ k, 0 ≤ E k → (k : Int) + 1 ≤ E k ∧ E k ≤ L) (hP : ∀ k, 0 ≤ E k → ∀ j : Nat, k ≤ j → (j : Int) < E k → P j) : ∀ (ks : List Int) (nx : Int), 0 ≤ nx → 0 ≤ kidsEnd E nx ks →
    (∀ k ∈ ks, 0 ≤ k ∧ k < L) ∧ ∀ j : Nat, nx ≤ j → (j : Int) < kidsEnd E nx ks → P j
  | [], nx, h0, h => ⟨fun k hk => by simp at hk, fun j h1 h2 => by unfold kidsEnd at h2; omega⟩
  | k :: ks, nx, h0, h => by
    unfold kidsEnd at h ⊢
    split at h
    · omega
    · split at h
      · omega
      · rename_i h1 h2
        have e : k = nx := by omega
        have h3 := hE k.toNat (by omega)
        have h4 := kidsEnd_all hE hP ks (E k.toNat) (by omega) h
        rw [if_neg h1, if_neg h2]
        refine ⟨fun k' hk' => ?_, fun j h5 h6 => ?_⟩
        · rcases List.mem_cons.1 hk' with rfl | h7
          · omega
          · exact h4.1 k' h7
        · by_cases h7 : (j : Int) < E k.toNat
          · exact hP k.toNat (by omega) j (by omega) h7
          · exact h4.2 j (by omega) h6
theorem ends_kids (l : List GDNode) : ∀ (f i : Nat), 0 ≤ ends l f i → ∀ j : Nat, i ≤ j → (j : Int) < ends l f i → ∀ x, l[j]? = some x → ∀ k ∈ x.kids, 0 ≤ k ∧ k < (l.length : Int)
  | 0, i, h => by simp [ends] at h
  | f + 1, i, h => by
    unfold ends at h ⊢
    cases hi : l[i]? with
    | none => rw [hi] at h; simp at h
    | some n =>
      rw [hi] at h
      have h1 := kidsEnd_all (ends_range l f) (P := fun j => ∀ x, l[j]? = some x → ∀ k ∈ x.kids, 0 ≤ k ∧ k < (l.length : Int)) (fun k hk j h2 h3 => ends_kids l f k hk j h2 h3) n.kids (i + 1) (by omega) h
      intro j h2 h3 x hx
      by_cases e : i = j
      · subst e
        obtain rfl : n = x := Option.some.inj (hi.symm.trans hx)
        exact h1.1
      · exact h1.2 j (by omega) h3 x hx

def kidsAt (l : List GDNode) (i : Nat) : List Int := (l[i]?.map (·.kids)).getD []
def dataOk (d : GData) : Bool := decide (1 ≤ (d.nodes.length : Int) ∧ (d.nodes.length : Int) ≤ 600) && (decide (endsK d.nodes.length (kidsAt d.nodes) (d.nodes.length + 1) 0 = d.nodes.length) && !d.nodes.any fun x => !nodeOk d.nodes x)

theorem kids_in {d : GData} (h : endsK d.nodes.length (kidsAt d.nodes) (d.nodes.length + 1) 0 = d.nodes.length) {i : Nat} {x : GDNode} (hx : d.nodes[i]? = some x) : ∀ k ∈ x.kids, 0 ≤ k ∧ k < (d.nodes.length : Int) := by
  have h' : ends d.nodes (d.nodes.length + 1) 0 = d.nodes.length := by rw [ends_eq]; exact h
  have hi := (List.getElem?_eq_some_iff.1 hx).1
  exact ends_kids d.nodes (d.nodes.length + 1) 0 (by omega) i (by omega) (by omega) x hx

set_option maxRecDepth 100000 in
set_option maxHeartbeats 4000000 in
theorem kidsOf_c (d : GData) (hd : d.nodes.length ≤ 1152921504606846976) (u : Value) (lo b : Nat) (w : World) (hu : Sl GDNode.R 4 lo w u d.nodes) (hb : w.cell? ⟨b, 0, none⟩ = some u) :
    KidsGive d.nodes.length (kidsAt d.nodes) 43 #[.pointer (some ⟨b, 0, none⟩)] lo w := by
  intro i hi
  obtain ⟨ua, uc, rfl, ul, um, h0⟩ := hu
  obtain ⟨b1, o1, x, r, _, rfl, P1, ⟨u0, rfl, _, hk⟩, r1⟩ := h0.get (Lib.hid rfl) hi
  refine ⟨u0, by unfold kidsAt; rw [P1.out]; exact hk, fun W hW => ?_⟩
  have e1 := cell_below hW hb
  have e2 : W.cell? ⟨b1, o1 + i * 4 + 3, none⟩ = some u0 := cell_below hW (by simpa using r1 3 _ rfl)
  clear h0 P1 hk r1 hb hW
  generalize d.nodes.length = n at *
  show Calls Try.prog 43 #[.int .i64 i, .pointer (some ⟨b, 0, none⟩)] W _
  go_enter Try.func43, Try.ntmps43
  go_wp2_with fail
  go_returns
  exact ⟨rfl, by go_grown⟩

set_option maxRecDepth 100000 in
set_option maxHeartbeats 4000000 in
theorem badNode_c (d : GData) (hd : d.nodes.length ≤ 1152921504606846976) (u : Value) (lo b : Nat) (w : World) (hu : Sl GDNode.R 4 lo w u d.nodes) (hb : w.cell? ⟨b, 0, none⟩ = some u) (x : GDNode) (hin : ∀ k ∈ x.kids, 0 ≤ k ∧ k < (d.nodes.length : Int)) (r : List Value) (W : World) (hW : Below w.heap.size w W) (lo' : Nat) (hx : GDNode.R lo' W r x) :
    Calls Try.prog 45 (#[.agg r.toArray] ++ #[.pointer (some ⟨b, 0, none⟩)]) W fun e w' => e = .returned (.bool (!nodeOk d.nodes x)) ∧ Below W.heap.size W w' := by
  have Hx := hx
  obtain ⟨u0, rfl, hwf, hk⟩ := hx
  have c1 := fun W' (hW' : Below W.heap.size W W') => dataNodeOk_c x hwf.2.2 d hd [u] [.int .i64 x.kind, .int .i64 x.n, .string x.s, u0] lo lo' W' ⟨u, rfl, trivial, hu.below GDNode.good (hW.trans (hW'.mono hW.size))⟩ (GDNode.good.below Hx hW') hin
  have e1 := cell_below hW hb
  obtain ⟨a, c, rfl⟩ := hu.form
  obtain ⟨a', c', rfl⟩ := hk.form
  clear hu hk Hx hin hb hW
  generalize nodeOk d.nodes x = q at *
  generalize d.nodes.length = n at *
  generalize x.kids.length = m at *
  replace c1 := Lib.hid c1
  show Calls Try.prog 45 #[.agg #[.int .i64 x.kind, .int .i64 x.n, .string x.s, .slice a' m c'], .pointer (some ⟨b, 0, none⟩)] W _
  have hbW := World.block_lt_of_cell? _ _ e1
  go_enter Try.func45, Try.ntmps45
  go_wp2_with (go_at_call 46; refine (c1.out _ (by go_grown)).mono ?_; rintro e w1 ⟨rfl, hb⟩)
  go_returns
  exact ⟨rfl, Below.trans (by go_grown) (hb.mono (by go_grown))⟩

set_option maxRecDepth 100000 in
set_option maxHeartbeats 4000000 in
theorem DataOk_c (d : GData) (hd : d.nodes.length ≤ 1152921504606846976) (r : List Value) (lo : Nat) (w : World) (hr : GData.R lo w r d) :
    Calls Try.prog 22 #[.agg r.toArray] w fun e w' => e = .returned (.bool (dataOk d)) ∧ Below w.heap.size w w' := by
  obtain ⟨u, rfl, -, hu⟩ := hr
  have hu' := hu
  obtain ⟨a, c, rfl⟩ := hu'.form
  clear hu'
  have H1 := fun W (hW : Below w.heap.size w W) => kidsOf_c d hd (.slice a d.nodes.length c) lo w.heap.size W (hu.below GDNode.good hW)
  have H2 := fun W (hW : Below w.heap.size w W) (hb : W.cell? ⟨w.heap.size, 0, none⟩ = some (.slice a d.nodes.length c)) (hk : endsK d.nodes.length (kidsAt d.nodes) (d.nodes.length + 1) 0 = d.nodes.length) =>
    containsFuncDNode_c d.nodes (fun x => !nodeOk d.nodes x) 45 #[.pointer (some ⟨w.heap.size, 0, none⟩)] lo (.slice a d.nodes.length c) W (hu.below GDNode.good hW)
      (fun i x r W' hi hW' hx => badNode_c d hd (.slice a d.nodes.length c) lo w.heap.size W (hu.below GDNode.good hW) hb x (kids_in hk hi) r W' hW' lo hx) (fun _ _ => by kernel_rfl)
  have H3 := fun W (hk : KidsGive d.nodes.length (kidsAt d.nodes) 43 #[.pointer (some ⟨w.heap.size, 0, none⟩)] lo W) => inOrder_c d.nodes.length hd (kidsAt d.nodes) 43 #[.pointer (some ⟨w.heap.size, 0, none⟩)] lo W hk (fun _ _ => by kernel_rfl)
  by_cases h1 : 1 ≤ (d.nodes.length : Int) ∧ (d.nodes.length : Int) ≤ 600
  · have hdk : dataOk d = (decide (endsK d.nodes.length (kidsAt d.nodes) (d.nodes.length + 1) 0 = d.nodes.length) && !d.nodes.any fun x => !nodeOk d.nodes x) := by unfold dataOk; rw [decide_eq_true h1]; rfl
    rw [hdk]
    have q1 : decide (1 ≤ (d.nodes.length : Int) ∧ (d.nodes.length : Int) ≤ 600) = true := decide_eq_true h1
    have W1 := fun W => within_c d.nodes.length 1 600 W
    rw [q1] at W1
    clear q1 hdk h1
    cases hk : decide (endsK d.nodes.length (kidsAt d.nodes) (d.nodes.length + 1) 0 = d.nodes.length)
    · rw [hk] at H3
      clear hk H2
      replace H1 := Lib.hid H1
      replace H3 := Lib.hid H3
      clear hu
      generalize d.nodes.length = n at *
      go_enter Try.func22, Try.ntmps22
      go_upto_region 1 with fail
      have B : RowAt (w.alloc (.cells #[.slice a n c] 25)) (w.heap.size) 0 [.slice a n c] := RowAt.box w #[.slice a n c] 25
      have hw : Below w.heap.size w (w.alloc (.cells #[.slice a n c] 25)) := by go_grown
      generalize (w.alloc (.cells #[.slice a n c] 25)) = w0 at *
      have b_0 := B.box1; have hsB := World.block_lt_of_cell? _ _ b_0; dsimp only at hsB
      go_wp2_with (first | (go_at_call 41; ((with_reducible refine (W1 _).mono ?_); rintro e w1 ⟨rfl, rfl⟩)) | (go_at_call 42; ((with_reducible refine (H3.out _ (H1.out _ hw b_0)).mono ?_); rintro e w1 ⟨rfl, hb⟩; have hw := hw.trans (hb.mono hw.size); have B := B.below hb; have b_0 := B.box1; have hsB := World.block_lt_of_cell? _ _ b_0; dsimp only at hsB; clear hb)))
      go_returns
      exact ⟨rfl, hw⟩
    · have hk' := of_decide_eq_true hk
      rw [hk] at H3
      replace H2 := fun W hW hb => H2 W hW hb hk'
      clear hk hk'
      generalize (d.nodes.any fun x => !nodeOk d.nodes x) = q at *
      replace H1 := Lib.hid H1
      replace H2 := Lib.hid H2
      replace H3 := Lib.hid H3
      clear hu
      generalize d.nodes.length = n at *
      go_enter Try.func22, Try.ntmps22
      go_upto_region 1 with fail
      have B : RowAt (w.alloc (.cells #[.slice a n c] 25)) (w.heap.size) 0 [.slice a n c] := RowAt.box w #[.slice a n c] 25
      have hw : Below w.heap.size w (w.alloc (.cells #[.slice a n c] 25)) := by go_grown
      generalize (w.alloc (.cells #[.slice a n c] 25)) = w0 at *
      have b_0 := B.box1; have hsB := World.block_lt_of_cell? _ _ b_0; dsimp only at hsB
      go_wp2_with (first | (go_at_call 41; ((with_reducible refine (W1 _).mono ?_); rintro e w1 ⟨rfl, rfl⟩)) | (go_at_call 42; ((with_reducible refine (H3.out _ (H1.out _ hw b_0)).mono ?_); rintro e w1 ⟨rfl, hb⟩; have hw := hw.trans (hb.mono hw.size); have B := B.below hb; have b_0 := B.box1; have hsB := World.block_lt_of_cell? _ _ b_0; dsimp only at hsB; clear hb)) | (go_at_call 44; ((with_reducible refine (H2.out _ hw b_0).mono ?_); rintro e w1 ⟨rfl, hb⟩; have hw := hw.trans (hb.mono hw.size); have B := B.below hb; have b_0 := B.box1; have hsB := World.block_lt_of_cell? _ _ b_0; dsimp only at hsB; clear hb)))
      go_returns
      exact ⟨rfl, hw⟩
  · have hdk : dataOk d = false := by unfold dataOk; rw [decide_eq_false h1]; rfl
    rw [hdk]
    have q1 : decide (1 ≤ (d.nodes.length : Int) ∧ (d.nodes.length : Int) ≤ 600) = false := decide_eq_false h1
    have W1 := fun W => within_c d.nodes.length 1 600 W
    rw [q1] at W1
    clear q1 hdk h1 H1 H2 H3 hu
    generalize d.nodes.length = n at *
    go_enter Try.func22, Try.ntmps22
    go_upto_region 1 with fail
    have B : RowAt (w.alloc (.cells #[.slice a n c] 25)) (w.heap.size) 0 [.slice a n c] := RowAt.box w #[.slice a n c] 25
    have hw : Below w.heap.size w (w.alloc (.cells #[.slice a n c] 25)) := by go_grown
    generalize (w.alloc (.cells #[.slice a n c] 25)) = w0 at *
    have b_0 := B.box1; have hsB := World.block_lt_of_cell? _ _ b_0; dsimp only at hsB
    go_wp2_with (go_at_call 41; ((with_reducible refine (W1 _).mono ?_); rintro e w1 ⟨rfl, rfl⟩))
    go_returns
    exact ⟨rfl, hw⟩

end Go.Proofs.Ytpblhonnknmjjaa

/- DataOk: the reference's. -/
namespace Go.Proofs.Ytpblhonnknmjjaa
open Go.RowKit
set_option linter.unusedVariables false
set_option linter.unusedSimpArgs false
attribute [local go_sem] Ext.cell

theorem dataOk_bad {d : GData} {i : Nat} {x : GDNode} (hx : d.nodes[i]? = some x) (h : nodeOk d.nodes x = false) : dataOk d = false := by
  have : (d.nodes.any fun x => !nodeOk d.nodes x) = true := List.any_eq_true.2 ⟨x, List.mem_of_getElem? hx, by rw [h]; rfl⟩
  unfold dataOk
  rw [this]
  simp
theorem dataOk_good {d : GData} (h0 : 1 ≤ d.nodes.length) (h6 : d.nodes.length ≤ 600) (h : ∀ y ∈ d.nodes.take d.nodes.length, nodeOk d.nodes y = true) : dataOk d = decide (ends d.nodes (d.nodes.length + 1) 0 = d.nodes.length) := by
  have : (d.nodes.any fun x => !nodeOk d.nodes x) = false := List.any_eq_false.2 fun y hy => by rw [h y (by rw [List.take_length]; exact hy)]; decide
  unfold dataOk
  rw [this, ends_eq, decide_eq_true (by omega)]
  simp
  rfl
theorem all_step {d : GData} {i : Nat} {x : GDNode} (h : ∀ y ∈ d.nodes.take i, nodeOk d.nodes y = true) (hx : d.nodes[i]? = some x) (hq : nodeOk d.nodes x = true) : ∀ y ∈ d.nodes.take (i + 1), nodeOk d.nodes y = true := by
  rw [take_snoc' hx]
  intro y hy
  rcases List.mem_append.1 hy with h' | h'
  · exact h y h'
  · simp at h'; subst h'; exact hq

theorem nodeOk_kind (l : List GDNode) (kd nn : Int) (s : ByteArray) (ks : List Int) :
    (kd = 6 ∧ nodeOk l ⟨kd, nn, s, ks⟩ = (((ks.length : Int) == 0) && ((nn == 0) && s.toList.isEmpty))) ∨
    (kd = 2 ∧ nodeOk l ⟨kd, nn, s, ks⟩ = (((ks.length : Int) == 0) && (nn == 0))) ∨
    (kd = 3 ∧ nodeOk l ⟨kd, nn, s, ks⟩ = (((ks.length : Int) == 0) && (s.toList.isEmpty && (wrap63 nn == nn)))) ∨
    (kd = 4 ∧ nodeOk l ⟨kd, nn, s, ks⟩ = ((nn == 0) && conShape s ks.length (pairOf l ks))) ∨
    (kd = 5 ∧ nodeOk l ⟨kd, nn, s, ks⟩ = (((ks.length : Int) == 2) && ((nn == 0) && s.toList.isEmpty))) ∨
    ((kd == 6) = false ∧ (kd == 2) = false ∧ (kd == 3) = false ∧ (kd == 4) = false ∧ (kd == 5) = false ∧ nodeOk l ⟨kd, nn, s, ks⟩ = false) := by
  unfold nodeOk
  dsimp only
  by_cases h6 : kd = 6
  · subst h6; exact .inl ⟨rfl, rfl⟩
  by_cases h2 : kd = 2
  · subst h2; exact .inr (.inl ⟨rfl, rfl⟩)
  by_cases h3 : kd = 3
  · subst h3
    refine .inr (.inr (.inl ⟨rfl, ?_⟩))
    have : (wrap63 nn == nn) = decide (-4611686018427387904 ≤ nn ∧ nn ≤ 4611686018427387903) := by
      show decide (wrap63 nn = nn) = _
      simp only [wrap63_eq]
    rw [this, if_pos rfl]
  by_cases h4 : kd = 4
  · subst h4; exact .inr (.inr (.inr (.inl ⟨rfl, rfl⟩)))
  by_cases h5 : kd = 5
  · subst h5; exact .inr (.inr (.inr (.inr (.inl ⟨rfl, rfl⟩))))
  refine .inr (.inr (.inr (.inr (.inr ⟨by simpa using h6, by simpa using h2, by simpa using h3, by simpa using h4, by simpa using h5, ?_⟩))))
  rw [if_neg h3, if_neg h2, if_neg h6, if_neg h5, if_neg h4]

set_option maxRecDepth 100000 in
set_option maxHeartbeats 8000000 in
theorem specDataOk_c (d : GData) (hd : d.nodes.length ≤ 1152921504606846976) (r : List Value) (lo : Nat) (w : World) (hr : GData.R lo w r d) :
    Calls Try.prog 9 #[.agg r.toArray] w fun e w' => e = .returned (.bool (dataOk d)) ∧ Below w.heap.size w w' := by
  have Hr := hr
  obtain ⟨u, rfl, -, hu⟩ := hr
  obtain ⟨a, c, rfl, ul, um, h0⟩ := hu
  have CE := fun W (hW : Below w.heap.size w W) => l07End_c d hd (d.nodes.length + 1) 0 [.slice a d.nodes.length c] lo W (GData.good.below Hr hW) (by omega)
  replace CE := Lib.hid CE
  replace h0 := Lib.hid h0
  clear Hr
  obtain ⟨n, hn⟩ : ∃ n, n = d.nodes.length := ⟨_, rfl⟩
  rw [← hn] at ul hd ⊢
  replace hn := Lib.hid hn
  by_cases hs : n < 1
  · have d1 : decide ((n : Int) < 1) = true := decide_eq_true (by omega)
    go_enter Try.func9, Try.ntmps9
    go_wp2_with fail
    go_returns
    exact ⟨by unfold dataOk; rw [← hn.out, decide_eq_false (by omega)]; rfl, by go_grown⟩
  by_cases hb : 600 < n
  · have d1 : decide ((n : Int) < 1) = false := decide_eq_false (by omega)
    have d2 : decide (600 < (n : Int)) = true := decide_eq_true (by omega)
    have d2' : decide (600 < n) = true := decide_eq_true (by omega)
    go_enter Try.func9, Try.ntmps9
    go_wp2_with fail
    go_returns
    exact ⟨by unfold dataOk; rw [← hn.out, decide_eq_false (by omega)]; rfl, by go_grown⟩
  have d1 : decide ((n : Int) < 1) = false := decide_eq_false (by omega)
  have d2 : decide (600 < (n : Int)) = false := decide_eq_false (by omega)
  have d2' : decide (600 < n) = false := decide_eq_false (by omega)
  go_enter Try.func9, Try.ntmps9
  go_upto_region 1 with fail
  have B : RowAt (w.alloc (.cells #[.slice a n c] 25)) (w.heap.size) 0 [.slice a n c] := RowAt.box w #[.slice a n c] 25
  have hw : Below w.heap.size w (w.alloc (.cells #[.slice a n c] 25)) := by go_grown
  generalize (w.alloc (.cells #[.slice a n c] 25)) = w0 at *
  have b_0 := B.box1; have hsB := World.block_lt_of_cell? _ _ b_0; dsimp only at hsB
  go_wp2_with fail
  go_loopw [20] (fun i wr => ∃ k : Nat, k ≤ n ∧ i = .int .i64 k ∧ Below w.heap.size w wr ∧ RowAt wr w.heap.size 0 [.slice a n c] ∧ Hid (∀ y ∈ d.nodes.take k, nodeOk d.nodes y = true)) (fun i _ => n - (intOf i).toNat)
  case atStart => exact ⟨0, by omega, rfl, hw, B, fun y hy => by simp at hy⟩
  case round =>
    clear hw B b_0 hsB
    obtain ⟨k, hk, rfl, hw, B, hF⟩ := hrel
    have b_0 := B.box1; have hsB := World.block_lt_of_cell? _ _ b_0; dsimp only at hsB
    by_cases hlt : k < n
    · obtain ⟨b1, o1, x, s1, _, rfl, P1, hx, r1⟩ := (h0.out.below GDNode.good hw).get hn hlt
      obtain ⟨kd, nn, s, ks⟩ := x
      obtain ⟨u0, rfl, hwf, hkd⟩ := hx
      obtain ⟨ka, kc, rfl, kl, km, k0⟩ := hkd
      have hnn : I64 nn := hwf.2.1
      have hss : StrOk s := hwf.2.2
      dsimp only at r1 kl k0 hwf
      obtain ⟨m, hm⟩ : ∃ m, m = ks.length := ⟨_, rfl⟩
      rw [← hm] at r1 kl
      replace hm := Lib.hid hm
      obtain ⟨e_0, e_1, e_2, e_3⟩ := r1.cells4
      clear r1 hwf
      replace k0 := Lib.hid k0
      go_upto_region 6 with fail
      have hz := hw.size
      have B' := B.below (show Below wr.heap.size wr (wr.alloc (.cells #[.int .i64 kd, .int .i64 nn, .string s, .slice ka m kc] 44)) by go_grown)
      have D : RowAt (wr.alloc (.cells #[.int .i64 kd, .int .i64 nn, .string s, .slice ka m kc] 44)) wr.heap.size 0 [.int .i64 kd, .int .i64 nn, .string s, .slice ka m kc] := RowAt.box _ _ _
      have hw' : Below w.heap.size w (wr.alloc (.cells #[.int .i64 kd, .int .i64 nn, .string s, .slice ka m kc] 44)) := by go_grown
      have hw1 : Below wr.heap.size wr (wr.alloc (.cells #[.int .i64 kd, .int .i64 nn, .string s, .slice ka m kc] 44)) := by go_grown
      generalize wr.alloc (.cells #[.int .i64 kd, .int .i64 nn, .string s, .slice ka m kc] 44) = w1 at *
      clear hw B b_0 hsB e_0 e_1 e_2 e_3 hz
      have hw := hw'; have B := B'; clear hw' B'
      generalize hp : pairOf d.nodes ks = p
      replace hp := Lib.hid hp
      go_cut [5] (fun sx wx => sx = .bool p ∧ Below w.heap.size w wx ∧ RowAt wx w.heap.size 0 [.slice (some ⟨b1, o1, none⟩) n c] ∧ RowAt wx wr.heap.size 0 [.int .i64 kd, .int .i64 nn, .string s, .slice ka m kc])
      case first =>
        have b_0 := B.box1; have hsB := World.block_lt_of_cell? _ _ b_0; dsimp only at hsB; obtain ⟨d_0, d_1, d_2, d_3⟩ := D.box4; have hsD := World.block_lt_of_cell? _ _ d_0; dsimp only at hsD
        by_cases h1 : m = 1
        · subst h1
          obtain ⟨b2, o2, j, s2, _, rfl, P2, ⟨rfl, hj64⟩, r2⟩ := (k0.out.below IntR.good hw1).get (k := 0) hm (by omega)
          have e1 : w1.cell? ⟨b2, o2, none⟩ = some (.int .i64 j) := by simpa using r2 0 _ rfl
          have hbj := World.block_lt_of_cell? _ _ e1
          dsimp only at hbj
          have hks : ks = [j] := by
            obtain ⟨y, rfl⟩ := List.length_eq_one_iff.1 hm.out.symm
            have := P2.out
            simpa using this
          have hp' : (kindAt d.nodes j == 5) = p := by rw [← hp.out, hks]; rfl
          clear r2 P2 hks
          by_cases hj0 : 0 ≤ j
          · obtain ⟨i, rfl⟩ : ∃ i : Nat, j = i := ⟨j.toNat, by omega⟩
            have hd0 : decide ((0 : Int) ≤ (i : Int)) = true := by simp
            by_cases hj1 : i < n
            · obtain ⟨b3, o3, y, s3, _, hpa, P3, hy, r3⟩ := (h0.out.below GDNode.good hw).get hn hj1
              obtain ⟨rfl, rfl⟩ : b3 = b1 ∧ o3 = o1 := by injection hpa with h; injection h with h1 h2; exact ⟨h1.symm, h2.symm⟩
              obtain ⟨y0, rfl, -, -⟩ := hy
              have e2 : w1.cell? ⟨b3, o3 + i * 4, none⟩ = some (.int .i64 y.kind) := by simpa using r3 0 _ rfl
              have hb3 := World.block_lt_of_cell? _ _ e2
              dsimp only at hb3
              have hp5 : (y.kind == 5) = p := by
                rw [← hp']
                unfold kindAt
                simp [P3.out]
              generalize y.kind = yk at *
              replace hp5 := Lib.hid hp5
              have hd1 : decide ((i : Int) < (n : Int)) = true := decide_eq_true (by omega)
              have hd1' : decide (i < n) = true := decide_eq_true (by omega)
              clear hp' r3 P3 hpa
              (refine wp_region_ext_lit (by kernel_rfl) (by kernel_rfl) ?_; (repeat (any_goals (first | go_big_quiet_step ((first | fail)) | quiet_step ((first | fail)) | (refine wpQuiet_step (fun K hK => ?_); go_simp; split <;> (refine hK _ ?_; clear hK K))))); all_goals (refine wpQuiet_nil ?_; rintro w1 ⟨⟨w2, hb⟩, rfl⟩; have hw := hw.trans (hb.mono hw.size); have B := B.below hb; have b_0 := B.box1; have hsB := World.block_lt_of_cell? _ _ b_0; dsimp only at hsB; have D := D.below hb; obtain ⟨d_0, d_1, d_2, d_3⟩ := D.box4; have hsD := World.block_lt_of_cell? _ _ d_0; dsimp only at hsD; clear hb))
              all_goals go_wp2_with fail
              all_goals go_meet
              all_goals exact ⟨by rw [← hp5.out], hw, B, D⟩
            · have hp5 : false = p := by
                rw [← hp']
                unfold kindAt
                rw [List.getElem?_eq_none (by have := hn.out; omega)]
                simp
              subst hp5
              have hd1 : decide ((i : Int) < (n : Int)) = false := decide_eq_false (by omega)
              have hd1' : decide (i < n) = false := decide_eq_false (by omega)
              clear hp'
              (refine wp_region_ext_lit (by kernel_rfl) (by kernel_rfl) ?_; (repeat (any_goals (first | go_big_quiet_step ((first | fail)) | quiet_step ((first | fail)) | (refine wpQuiet_step (fun K hK => ?_); go_simp; split <;> (refine hK _ ?_; clear hK K))))); all_goals (refine wpQuiet_nil ?_; rintro w1 ⟨⟨w2, hb⟩, rfl⟩; have hw := hw.trans (hb.mono hw.size); have B := B.below hb; have b_0 := B.box1; have hsB := World.block_lt_of_cell? _ _ b_0; dsimp only at hsB; have D := D.below hb; obtain ⟨d_0, d_1, d_2, d_3⟩ := D.box4; have hsD := World.block_lt_of_cell? _ _ d_0; dsimp only at hsD; clear hb))
              all_goals go_wp2_with fail
              all_goals go_meet
              all_goals exact ⟨rfl, hw, B, D⟩
          · have hp5 : false = p := by
              rw [← hp']
              unfold kindAt
              rw [if_neg hj0]; rfl
            subst hp5
            have hd0 : decide ((0 : Int) ≤ j) = false := decide_eq_false hj0
            clear hp' hj0
            (refine wp_region_ext_lit (by kernel_rfl) (by kernel_rfl) ?_; (repeat (any_goals (first | go_big_quiet_step ((first | fail)) | quiet_step ((first | fail)) | (refine wpQuiet_step (fun K hK => ?_); go_simp; split <;> (refine hK _ ?_; clear hK K))))); all_goals (refine wpQuiet_nil ?_; rintro w1 ⟨⟨w2, hb⟩, rfl⟩; have hw := hw.trans (hb.mono hw.size); have B := B.below hb; have b_0 := B.box1; have hsB := World.block_lt_of_cell? _ _ b_0; dsimp only at hsB; have D := D.below hb; obtain ⟨d_0, d_1, d_2, d_3⟩ := D.box4; have hsD := World.block_lt_of_cell? _ _ d_0; dsimp only at hsD; clear hb))
            all_goals go_wp2_with fail
            all_goals go_meet
            all_goals exact ⟨rfl, hw, B, D⟩
        · have hp5 : false = p := by
            rw [← hp.out]
            unfold pairOf
            have := hm.out
            match ks, this with
            | [], _ => rfl
            | [a], h => exact absurd h h1
            | a :: b :: c, _ => rfl
          subst hp5
          have e1 : ((m : Int) == 1) = false := by simp; omega
          clear h1
          (refine wp_region_ext_lit (by kernel_rfl) (by kernel_rfl) ?_; (repeat (any_goals (first | go_big_quiet_step ((first | fail)) | quiet_step ((first | fail)) | (refine wpQuiet_step (fun K hK => ?_); go_simp; split <;> (refine hK _ ?_; clear hK K))))); all_goals (refine wpQuiet_nil ?_; rintro w1 ⟨⟨w2, hb⟩, rfl⟩; have hw := hw.trans (hb.mono hw.size); have B := B.below hb; have b_0 := B.box1; have hsB := World.block_lt_of_cell? _ _ b_0; dsimp only at hsB; have D := D.below hb; obtain ⟨d_0, d_1, d_2, d_3⟩ := D.box4; have hsD := World.block_lt_of_cell? _ _ d_0; dsimp only at hsD; clear hb))
          all_goals go_wp2_with fail
          all_goals go_meet
          all_goals exact ⟨rfl, hw, B, D⟩
      obtain ⟨rfl, hw, B, D⟩ := hcut
      have b_0 := B.box1; have hsB := World.block_lt_of_cell? _ _ b_0; dsimp only at hsB; obtain ⟨d_0, d_1, d_2, d_3⟩ := D.box4; have hsD := World.block_lt_of_cell? _ _ d_0; dsimp only at hsD
      have hC := nodeOk_kind d.nodes kd nn s ks
      rw [hp.out, ← hm.out] at hC
      have c70 := fun W => l04ConOk_c s m p hss W
      have c69 := fun W => Wrap_c nn hnn W
      generalize conShape s m p = cs at *
      generalize wrap63 nn = wn at *
      generalize hq : nodeOk d.nodes ⟨kd, nn, s, ks⟩ = q at hC
      have P1' := P1.out
      have hstep : Hid (q = true → ∀ y ∈ d.nodes.take (k + 1), nodeOk d.nodes y = true) := fun h => all_step hF.out P1' (hq.trans h)
      have hbad : Hid (q = false → dataOk d = false) := fun h => dataOk_bad P1' (hq.trans h)
      clear hq P1 P1' hF hm hp k0 hw1
      rcases hC with ⟨rfl, rfl⟩ | ⟨rfl, rfl⟩ | ⟨rfl, rfl⟩ | ⟨rfl, rfl⟩ | ⟨rfl, rfl⟩ | ⟨h6, h2, h3, h4, h5, rfl⟩
      · cases e0 : ((m : Int) == 0) <;> cases e1 : (nn == 0) <;> cases e2 : s.toList.isEmpty
        all_goals rw [e0, e1, e2] at hstep hbad
        all_goals go_wp2_with fail
        all_goals first
          | (go_returns
             exact ⟨by rw [hbad.out rfl]; rfl, hw⟩)
          | (go_roundw
             case rel => exact ⟨k + 1, by omega, by go_num, hw, B, hstep.out rfl⟩
             case measure => simp [intOf]; omega)
      · cases e0 : ((m : Int) == 0) <;> cases e1 : (nn == 0)
        all_goals rw [e0, e1] at hstep hbad
        all_goals go_wp2_with fail
        all_goals first
          | (go_returns
             exact ⟨by rw [hbad.out rfl]; rfl, hw⟩)
          | (go_roundw
             case rel => exact ⟨k + 1, by omega, by go_num, hw, B, hstep.out rfl⟩
             case measure => simp [intOf]; omega)
      · cases e0 : ((m : Int) == 0) <;> cases e1 : (wn == nn) <;> cases e2 : s.toList.isEmpty
        all_goals rw [e0, e1, e2] at hstep hbad
        all_goals go_upto_region 14 with fail
        all_goals (refine wp_region_ext_lit (by kernel_rfl) (by kernel_rfl) ?_; (repeat (any_goals (first | go_big_quiet_step ((first | (go_at_call 23; exact Calls.ext_same (c69 _)))) | quiet_step ((first | (go_at_call 23; exact Calls.ext_same (c69 _)))) | (refine wpQuiet_step (fun K hK => ?_); go_simp; split <;> (refine hK _ ?_; clear hK K))))); all_goals (refine wpQuiet_nil ?_; rintro w1 ⟨⟨w2, hb⟩, rfl⟩; have hw := hw.trans (hb.mono hw.size); have B := B.below hb; have b_0 := B.box1; have hsB := World.block_lt_of_cell? _ _ b_0; dsimp only at hsB; have D := D.below hb; obtain ⟨d_0, d_1, d_2, d_3⟩ := D.box4; have hsD := World.block_lt_of_cell? _ _ d_0; dsimp only at hsD; clear hb))
        all_goals go_wp2_with fail
        all_goals first
          | (go_returns
             exact ⟨by rw [hbad.out rfl]; rfl, hw⟩)
          | (go_roundw
             case rel => exact ⟨k + 1, by omega, by go_num, hw, B, hstep.out rfl⟩
             case measure => simp [intOf]; omega)
      · cases e1 : (nn == 0) <;> cases cs
        all_goals rw [e1] at hstep hbad
        all_goals go_wp2_with (go_at_call 24; ((with_reducible refine (c70 _).mono ?_); rintro e w1 ⟨rfl, rfl⟩))
        all_goals first
          | (go_returns
             exact ⟨by rw [hbad.out rfl]; rfl, hw⟩)
          | (go_roundw
             case rel => exact ⟨k + 1, by omega, by go_num, hw, B, hstep.out rfl⟩
             case measure => simp [intOf]; omega)
      · cases e0 : ((m : Int) == 2) <;> cases e1 : (nn == 0) <;> cases e2 : s.toList.isEmpty
        all_goals rw [e0, e1, e2] at hstep hbad
        all_goals go_wp2_with fail
        all_goals first
          | (go_returns
             exact ⟨by rw [hbad.out rfl]; rfl, hw⟩)
          | (go_roundw
             case rel => exact ⟨k + 1, by omega, by go_num, hw, B, hstep.out rfl⟩
             case measure => simp [intOf]; omega)
      · replace hbad := Lib.hid (hbad.out rfl)
        clear hstep
        go_wp2_with fail
        go_returns
        exact ⟨by rw [hbad.out]; rfl, hw⟩
    · obtain rfl : k = n := by omega
      have CE' := fun W (hW : Below wr.heap.size wr W) => CE.out W (hw.trans (hW.mono hw.size))
      have hgood := dataOk_good (d := d) (by have := hn.out; omega) (by have := hn.out; omega) (hn.out ▸ hF.out)
      rw [← hn.out] at hgood CE'
      replace hgood := Lib.hid hgood
      generalize ends d.nodes (k + 1) 0 = E at *
      replace CE' := Lib.hid CE'
      go_wp2_with fail
      (refine wp_region_ext_lit (by kernel_rfl) (by kernel_rfl) ?_; (repeat (any_goals (first | go_big_quiet_step ((first | (go_at_call 25; exact Calls.ext (CE'.out _ (Subtype.property _))))) | quiet_step ((first | (go_at_call 25; exact Calls.ext (CE'.out _ (Subtype.property _))))) | (refine wpQuiet_step (fun K hK => ?_); go_simp; split <;> (refine hK _ ?_; clear hK K))))); all_goals (refine wpQuiet_nil ?_; rintro w1 ⟨⟨w2, hb⟩, rfl⟩; have hw := hw.trans (hb.mono hw.size); have B := B.below hb; have b_0 := B.box1; have hsB := World.block_lt_of_cell? _ _ b_0; dsimp only at hsB; clear hb))
      all_goals go_wp2_with fail
      all_goals go_returns
      all_goals exact ⟨by rw [hgood.out]; rfl, hw⟩

end Go.Proofs.Ytpblhonnknmjjaa

/- Trees of patterns and values behind pointers: how they read. -/
namespace Go.Proofs.Ytpblhonnknmjjaa
open Go.RowKit
set_option linter.unusedVariables false
set_option linter.unusedSimpArgs false

inductive PxT where
  | mk (kind n : Int) (s : ByteArray) (kids : List PxT)
def PxT.kind : PxT → Int | .mk k _ _ _ => k
def PxT.n : PxT → Int | .mk _ n _ _ => n
def PxT.s : PxT → ByteArray | .mk _ _ s _ => s
def PxT.kids : PxT → List PxT | .mk _ _ _ ks => ks
def PxT.wf (t : PxT) : Prop := I64 t.kind ∧ I64 t.n ∧ StrOk t.s

/-- v points to a tree of at most f levels; each block that it leads to is in S. -/
def PxR : Nat → (Nat → Prop) → World → Value → PxT → Prop
  | 0, _, _, _, _ => False
  | f + 1, S, w, v, t => ∃ b a cap, v = .pointer (some ⟨b, 0, none⟩) ∧ S b ∧ t.wf ∧ RowAt w b 0 [.int .i64 t.kind, .int .i64 t.n, .string t.s, .slice a t.kids.length cap] ∧ t.kids.length ≤ cap ∧ cap ≤ 9223372036854775807 ∧
      (0 < t.kids.length → ∃ g off, a = some ⟨g, off, none⟩ ∧ S g ∧ ∀ i k, t.kids[i]? = some k → ∃ p, w.cell? ⟨g, off + i, none⟩ = some p ∧ PxR f S w p k)

def Same (S : Nat → Prop) (w w' : World) : Prop := ∀ b, S b → b < w.heap.size → w'.heap[b]? = w.heap[b]?
theorem Same.cell {S : Nat → Prop} {w w' : World} (h : Same S w w') {b o : Nat} {v : Value} (hS : S b) (hc : w.cell? ⟨b, o, none⟩ = some v) : w'.cell? ⟨b, o, none⟩ = some v := by
  rw [World.cell?_of_block (w := w) (a := ⟨b, o, none⟩) (h b hS (World.block_lt_of_cell? w _ hc)), hc]
theorem Same.below {S : Nat → Prop} {w w' : World} (h : Below w.heap.size w w') : Same S w w' := fun b _ hb => h.block b hb

theorem PxR.to : ∀ {f : Nat} {S S' : Nat → Prop} {w w' : World} {v : Value} {t : PxT}, PxR f S w v t → Same S w w' → (∀ b, S b → b < w.heap.size → S' b) → PxR f S' w' v t
  | 0, _, _, _, _, _, _, h, _, _ => h
  | f + 1, S, S', w, w', v, t, ⟨b, a, cap, hv, hS, hwf, hr, h1, h2, h3⟩, hs, hi =>
    ⟨b, a, cap, hv, hi b hS (World.block_lt_of_cell? w _ (hr 0 _ rfl)), hwf, fun j c hc => hs.cell hS (hr j c hc), h1, h2, fun h0 =>
      let ⟨g, off, ha, hg, hk⟩ := h3 h0
      ⟨g, off, ha, by
        obtain ⟨k, hk0⟩ : ∃ k, t.kids[0]? = some k := ⟨_, List.getElem?_eq_getElem h0⟩
        obtain ⟨p, hp, _⟩ := hk 0 k hk0
        exact hi g hg (World.block_lt_of_cell? w _ hp), fun i k hik =>
          let ⟨p, hp, hR⟩ := hk i k hik
          ⟨p, hs.cell hg hp, hR.to hs hi⟩⟩⟩
theorem PxR.below {f : Nat} {S : Nat → Prop} {w w' : World} {v : Value} {t : PxT} (h : PxR f S w v t) (hb : Below w.heap.size w w') : PxR f S w' v t := h.to (Same.below hb) fun _ h _ => h
theorem PxR.form {f : Nat} {S : Nat → Prop} {w : World} {v : Value} {t : PxT} (h : PxR f S w v t) : ∃ b, v = .pointer (some ⟨b, 0, none⟩) := by
  cases f with
  | zero => exact absurd h (by simp [PxR])
  | succ f => obtain ⟨b, _, _, hv, _⟩ := h; exact ⟨b, hv⟩

/-- The tree of a value's node. -/
def treeOf (l : List GDNode) : Nat → Nat → PxT
  | 0, _ => .mk 0 0 ByteArray.empty []
  | f + 1, i => match l[i]? with
    | none => .mk 0 0 ByteArray.empty []
    | some x => .mk x.kind x.n x.s (x.kids.map fun k => treeOf l f k.toNat)
theorem treeOf_some {l : List GDNode} {f i : Nat} {x : GDNode} (h : l[i]? = some x) : treeOf l (f + 1) i = .mk x.kind x.n x.s (x.kids.map fun k => treeOf l f k.toNat) := by
  conv => lhs; unfold treeOf
  rw [h]

/-- Children stand behind their parent. -/
def Up (l : List GDNode) : Prop := ∀ (j : Nat) x, l[j]? = some x → ∀ k ∈ x.kids, (j : Int) < k ∧ k < (l.length : Int)

theorem kidsEnd_up {E : Nat → Int} {L : Int} {P : Nat → Prop} (hE : ∀ k, 0 ≤ E k → (k : Int) + 1 ≤ E k ∧ E k ≤ L) (hP : ∀ k, 0 ≤ E k → ∀ j : Nat, k ≤ j → (j : Int) < E k → P j) : ∀ (ks : List Int) (nx : Int), 0 ≤ nx → 0 ≤ kidsEnd E nx ks →
    (∀ k ∈ ks, nx ≤ k ∧ k < L) ∧ ∀ j : Nat, nx ≤ j → (j : Int) < kidsEnd E nx ks → P j
  | [], nx, h0, h => ⟨fun k hk => by simp at hk, fun j h1 h2 => by unfold kidsEnd at h2; omega⟩
  | k :: ks, nx, h0, h => by
    unfold kidsEnd at h ⊢
    split at h
    · omega
    · split at h
      · omega
      · rename_i h1 h2
        have e : k = nx := by omega
        have h3 := hE k.toNat (by omega)
        have h4 := kidsEnd_up hE hP ks (E k.toNat) (by omega) h
        rw [if_neg h1, if_neg h2]
        refine ⟨fun k' hk' => ?_, fun j h5 h6 => ?_⟩
        · rcases List.mem_cons.1 hk' with rfl | h7
          · omega
          · have := h4.1 k' h7
            omega
        · by_cases h7 : (j : Int) < E k.toNat
          · exact hP k.toNat (by omega) j (by omega) h7
          · exact h4.2 j (by omega) h6
theorem ends_up (l : List GDNode) : ∀ (f i : Nat), 0 ≤ ends l f i → ∀ j : Nat, i ≤ j → (j : Int) < ends l f i → ∀ x, l[j]? = some x → ∀ k ∈ x.kids, (j : Int) < k ∧ k < (l.length : Int)
  | 0, i, h => by simp [ends] at h
  | f + 1, i, h => by
    unfold ends at h ⊢
    cases hi : l[i]? with
    | none => rw [hi] at h; simp at h
    | some n =>
      rw [hi] at h
      have h1 := kidsEnd_up (ends_range l f) (P := fun j => ∀ x, l[j]? = some x → ∀ k ∈ x.kids, (j : Int) < k ∧ k < (l.length : Int)) (fun k hk j h2 h3 => ends_up l f k hk j h2 h3) n.kids (i + 1) (by omega) h
      intro j h2 h3 x hx
      by_cases e : i = j
      · subst e
        obtain rfl : n = x := Option.some.inj (hi.symm.trans hx)
        exact fun k hk => by have := h1.1 k hk; omega
      · exact h1.2 j (by omega) h3 x hx
theorem dataOk_up {d : GData} (h : dataOk d = true) : Up d.nodes ∧ 0 < d.nodes.length ∧ d.nodes.length ≤ 600 := by
  unfold dataOk at h
  simp only [Bool.and_eq_true, decide_eq_true_eq] at h
  obtain ⟨h1, h2, _⟩ := h
  rw [show kidsAt d.nodes = (fun i => (d.nodes[i]?.map (·.kids)).getD []) from rfl, ← ends_eq] at h2
  refine ⟨fun j x hx => ?_, by omega, by omega⟩
  have hj := (List.getElem?_eq_some_iff.1 hx).1
  exact ends_up d.nodes (d.nodes.length + 1) 0 (by omega) j (by omega) (by omega) x hx

theorem conShape_le {s : ByteArray} {k : Int} {pb : Bool} (h : conShape s k pb = true) : k ≤ 1 := by
  unfold conShape at h
  split at h
  · simp at h; omega
  · split at h
    · simp at h; omega
    · simp at h; omega
theorem nodeOk_few {l : List GDNode} {x : GDNode} (h : nodeOk l x = true) : x.kids.length ≤ 2 := by
  obtain ⟨kd, nn, s, ks⟩ := x
  show ks.length ≤ 2
  rcases nodeOk_kind l kd nn s ks with ⟨_, e⟩ | ⟨_, e⟩ | ⟨_, e⟩ | ⟨_, e⟩ | ⟨_, e⟩ | ⟨_, _, _, _, _, e⟩
  all_goals rw [h] at e; replace e := e.symm; (try simp only [Bool.and_eq_true, beq_iff_eq] at e)
  · omega
  · omega
  · omega
  · have := conShape_le e.2; omega
  · omega
  · cases e
theorem dataOk_few {d : GData} (h : dataOk d = true) : ∀ (j : Nat) x, d.nodes[j]? = some x → x.kids.length ≤ 2 := by
  unfold dataOk at h
  simp only [Bool.and_eq_true, decide_eq_true_eq, Bool.not_eq_true'] at h
  obtain ⟨h1, h2, h3⟩ := h
  intro j x hx
  rw [List.any_eq_false] at h3
  have := h3 x (List.mem_of_getElem? hx)
  exact nodeOk_few (l := d.nodes) (by simpa using this)

theorem RowAt.of_block {w w' : World} {b o : Nat} {r : List Value} (h : RowAt w b o r) (e : w'.heap[b]? = w.heap[b]?) : RowAt w' b o r := fun j c hc =>
  (World.cell?_of_block (w := w) (a := ⟨b, o + j, none⟩) e).trans (h j c hc)
theorem RowAt.set3 {w : World} {b : Nat} {a0 a1 a2 a3 : Value} (h : RowAt w b 0 [a0, a1, a2, a3]) (u : Value) : RowAt (w.setCell ⟨b, 3, none⟩ u) b 0 [a0, a1, a2, u] := by
  obtain ⟨h0, h1, h2, h3⟩ := h.box4
  intro j c hc
  match j, hc with
  | 0, hc => simp at hc; subst hc; rw [cell_setCell_ne _ _ _ _ _ (by omega)]; exact h0
  | 1, hc => simp at hc; subst hc; rw [cell_setCell_ne _ _ _ _ _ (by omega)]; exact h1
  | 2, hc => simp at hc; subst hc; rw [cell_setCell_ne _ _ _ _ _ (by omega)]; exact h2
  | 3, hc => simp at hc; subst hc; exact cell_setCell_eq _ _ _ _ h3
  | j + 4, hc => simp at hc

/-- Children laid into a slice that the call owns. -/
def KidsOwn (w : World) (base : Nat) (T : TypeId) (f : Nat) (vs : List Value) (ts : List PxT) (v : Value) : Prop :=
  vs.length = ts.length ∧ w.ownsRow base T 1 v ts.length vs ∧ ∀ (i : Nat) (p : Value) (t : PxT), vs[i]? = some p → ts[i]? = some t → PxR f (fun b => base ≤ b ∧ v.ownBlock ≠ some b) w p t
theorem KidsOwn.nil (w : World) (base : Nat) (T : TypeId) (f : Nat) : KidsOwn w base T f [] [] (.slice none 0 0) := ⟨rfl, own_none, fun i p t (h : ([] : List Value)[i]? = some p) => by simp at h⟩
theorem KidsOwn.below {w w' : World} {base : Nat} {T : TypeId} {f : Nat} {vs : List Value} {ts : List PxT} {v : Value} (h : KidsOwn w base T f vs ts v) (hb : Below w.heap.size w w') : KidsOwn w' base T f vs ts v :=
  ⟨h.1, own_below h.2.1 hb, fun i p t h1 h2 => (h.2.2 i p t h1 h2).below hb⟩
theorem KidsOwn.grow {w w1 w1' w2 : World} {base : Nat} {T : TypeId} {f : Nat} {vs : List Value} {ts : List PxT} {v p : Value} {t : PxT} {g n cap : Nat} (h : KidsOwn w base T f vs ts v) (hbase : base ≤ w.heap.size) (hb : Below w.heap.size w w1) (hb1 : Below w1.heap.size w1 w1')
    (hp : PxR f (fun b => w.heap.size ≤ b) w1 p t) (hg : w1'.grownBy w2 v.ownBlock) (hown : w2.ownsRow base T 1 (.slice (some ⟨g, 0, none⟩) n cap) n (vs ++ [p])) (hn : n = ts.length + 1) (hat : v.ownBlock = some g ∨ g = w1'.heap.size) :
    KidsOwn w2 base T f (vs ++ [p]) (ts ++ [t]) (.slice (some ⟨g, 0, none⟩) n cap) := by
  subst hn
  obtain ⟨h1, h2, h3⟩ := h
  have ob := own_base h2
  have hs1 := hb.size
  have hs2 := hb1.size
  refine ⟨by simp [h1], by simpa using hown, fun i q u hq hu => ?_⟩
  by_cases e : i = ts.length
  · subst e
    rw [List.getElem?_append_right (by omega)] at hq hu
    have hq' : p = q := by simpa [h1] using hq
    have hu' : t = u := by simpa using hu
    subst hq' hu'
    have hp1 : PxR f (fun b => w.heap.size ≤ b ∧ b < w1.heap.size) w1 p t := hp.to (Same.below (Below.refl _ _)) fun b h4 h5 => ⟨h4, h5⟩
    refine (hp1.below hb1).to (fun b h4 h5 => hg.block b h5 fun e => ?_) fun b h4 h5 => ⟨by omega, fun e => ?_⟩
    · have := (ob b e.symm).2
      omega
    · obtain rfl : g = b := by simpa [Value.ownBlock] using e
      rcases hat with h6 | h6
      · have := (ob g h6).2
        omega
      · omega
  · have hi : i < ts.length := by
      have := (List.getElem?_eq_some_iff.1 hu).1
      simp at this; omega
    rw [List.getElem?_append_left (by omega)] at hq hu
    have hp1 : PxR f (fun b => (base ≤ b ∧ v.ownBlock ≠ some b) ∧ b < w.heap.size) w q u := (h3 i q u hq hu).to (Same.below (Below.refl _ _)) fun b h4 h5 => ⟨h4, h5⟩
    refine ((hp1.below hb).below hb1).to (fun b h4 h5 => hg.block b h5 fun e => h4.1.2 e.symm) fun b h4 h5 => ⟨h4.1.1, fun e => ?_⟩
    obtain rfl : g = b := by simpa [Value.ownBlock] using e
    rcases hat with h6 | h6
    · exact h4.1.2 h6
    · omega
theorem KidsOwn.set {w : World} {base : Nat} {T : TypeId} {f : Nat} {vs : List Value} {ts : List PxT} {v : Value} (h : KidsOwn w base T f vs ts v) {b o : Nat} (hb : b < base) (u : Value) : KidsOwn (w.setCell ⟨b, o, none⟩ u) base T f vs ts v :=
  ⟨h.1, own_kept (S := fun k => k = b) h.2.1 ((Kept.refl (fun k => k = b) w).set (p := ⟨b, o, none⟩) rfl u) (fun g hg e => by have := (own_base h.2.1 g hg).1; omega), fun i p t h1 h2 =>
    (h.2.2 i p t h1 h2).to (fun k hk _ => Below.heap_setCell w ⟨b, o, none⟩ u k (by show k ≠ b; omega)) fun k hk _ => hk⟩
theorem KidsOwn.form {w : World} {base : Nat} {T : TypeId} {f : Nat} {vs : List Value} {ts : List PxT} {v : Value} (h : KidsOwn w base T f vs ts v) : ∃ a cap, v = .slice a ts.length cap := by
  rcases h.2.1.2 with ⟨rfl, h0⟩ | ⟨g, cap, cur, rfl, _⟩
  · exact ⟨none, 0, by rw [h0]⟩
  · exact ⟨_, cap, rfl⟩
/-- A block of the call's own with such children is a tree. -/
theorem KidsOwn.tree {w : World} {base lo b f : Nat} {T : TypeId} {vs : List Value} {t : PxT} {v : Value} (h : KidsOwn w base T f vs t.kids v) (hl : lo ≤ b) (hbase : lo ≤ base) (hwf : t.wf) (hr : RowAt w b 0 [.int .i64 t.kind, .int .i64 t.n, .string t.s, v]) :
    PxR (f + 1) (fun b => lo ≤ b) w (.pointer (some ⟨b, 0, none⟩)) t := by
  by_cases h0 : 0 < t.kids.length
  · obtain ⟨g, cap, rfl, h1, h2, h3, h4, h5, h6⟩ := own_cells h.2.1 h0
    refine ⟨b, _, cap, rfl, hl, hwf, hr, h3, h4, fun _ => ⟨g, 0, rfl, by omega, fun i k hk => ?_⟩⟩
    have hi := (List.getElem?_eq_some_iff.1 hk).1
    obtain ⟨p, hp⟩ : ∃ p, vs[i]? = some p := ⟨_, List.getElem?_eq_getElem (by rw [h.1]; exact hi)⟩
    exact ⟨p, h5 i p hp, (h.2.2 i p k hp hk).to (Same.below (Below.refl _ _)) fun b h _ => by omega⟩
  · obtain ⟨a, cap, rfl⟩ := h.form
    rcases h.2.1.2 with ⟨hv, _⟩ | ⟨g, cap', cur, hv, _, _, h5, h6, _⟩
    · injection hv with _ e1 e2
      subst e2
      exact ⟨b, a, 0, rfl, hl, hwf, hr, by omega, by omega, fun h => absurd h h0⟩
    · injection hv with _ e1 e2
      subst e2
      exact ⟨b, a, cap, rfl, hl, hwf, hr, h5, by unfold maxLen at h6; omega, fun h => absurd h h0⟩

end Go.Proofs.Ytpblhonnknmjjaa
