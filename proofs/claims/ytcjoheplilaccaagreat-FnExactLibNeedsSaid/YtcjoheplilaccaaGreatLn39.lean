/- Parts of the proof, merged: Tail, TailS. -/
import Derived.Test.YtcjoheplilaccaaGreatLn38
/- The tail of a row that the call owns: append to it. No program is named here. -/
namespace Go.Proofs.YtcjoheplilaccaaGreat
open Go.RowKit
set_option linter.unusedVariables false
set_option linter.unusedSimpArgs false

/-- A slice that begins at element o of an owned row. -/
def Tail (B : Nat) (w : World) (base : Nat) (e : TypeId) (size : Nat) (v : Value) (n : Nat) (xs : List Value) : Prop :=
  xs.length = n * size ∧ ((v = .slice none 0 0 ∧ n = 0) ∨ ∃ g o cap pre, o ≤ B ∧ v = .slice (some ⟨g, o * size, none⟩) n cap ∧ pre.length = o * size ∧ w.ownsRow base e size (.slice (some ⟨g, 0, none⟩) (o + n) (o + cap)) (o + n) (pre ++ xs))
theorem Tail.of {B : Nat} {w : World} {base : Nat} {e : TypeId} {size : Nat} {v : Value} {n : Nat} {xs : List Value} (h : w.ownsRow base e size v n xs) : Tail B w base e size v n xs := by
  refine ⟨h.1, ?_⟩
  rcases h.2 with h2 | ⟨g, cap, cur, hv, h2⟩
  · exact .inl h2
  · exact .inr ⟨g, 0, cap, [], Nat.zero_le _, by rw [hv]; simp, by simp, by rw [Nat.zero_add, Nat.zero_add, ← hv, List.nil_append]; exact h⟩
theorem Tail.block {B : Nat} {w : World} {base : Nat} {e : TypeId} {size : Nat} {v : Value} {n : Nat} {xs : List Value} (h : Tail B w base e size v n xs) : ∀ g, v.ownBlock = some g → base ≤ g ∧ g < w.heap.size := fun g hg => by
  rcases h.2 with ⟨rfl, _⟩ | ⟨g', o, cap, pre, _, rfl, _, h2⟩
  · cases hg
  · obtain rfl : g' = g := by simpa [Value.ownBlock] using hg
    exact own_base h2 _ rfl
theorem Tail.kept {B : Nat} {S : Nat → Prop} {w w' : World} {base : Nat} {e : TypeId} {size : Nat} {v : Value} {n : Nat} {xs : List Value} (h : Tail B w base e size v n xs) (hk : Kept S w w') (hS : ∀ g, v.ownBlock = some g → ¬ S g) : Tail B w' base e size v n xs := by
  refine ⟨h.1, ?_⟩
  rcases h.2 with h2 | ⟨g, o, cap, pre, hoB, rfl, hp, h2⟩
  · exact .inl h2
  · exact .inr ⟨g, o, cap, pre, hoB, rfl, hp, own_kept h2 hk (fun q hq => by
      obtain rfl : g = q := by simpa [Value.ownBlock] using hq
      exact hS g rfl)⟩
theorem Tail.below {B : Nat} {w w' : World} {base : Nat} {e : TypeId} {size : Nat} {v : Value} {n : Nat} {xs : List Value} (h : Tail B w base e size v n xs) (hb : Below w.heap.size w w') : Tail B w' base e size v n xs :=
  h.kept (S := fun _ => False) (Kept.below hb) (fun _ _ h => h)
theorem Tail.form {B : Nat} {w : World} {base : Nat} {e : TypeId} {size : Nat} {v : Value} {n : Nat} {xs : List Value} (h : Tail B w base e size v n xs) : ∃ a c, v = .slice a n c := by
  rcases h.2 with ⟨rfl, rfl⟩ | ⟨g, o, cap, pre, _, rfl, _⟩ <;> exact ⟨_, _, rfl⟩
theorem Tail.cells {B : Nat} {w : World} {base : Nat} {e : TypeId} {size : Nat} {v : Value} {n : Nat} {xs : List Value} (h : Tail B w base e size v n xs) (hn : 0 < n) :
    ∃ g o cap, o ≤ B ∧ v = .slice (some ⟨g, o * size, none⟩) n cap ∧ base ≤ g ∧ g < w.heap.size ∧ n ≤ cap ∧ cap ≤ maxLen ∧ RowAt w g (o * size) xs := by
  rcases h.2 with ⟨_, h0⟩ | ⟨g, o, cap, pre, hoB, rfl, hp, h2⟩
  · omega
  · obtain ⟨g', c', hv, h3, h4, h5, h6, hR, -⟩ := own_cells h2 (by omega)
    obtain ⟨rfl, rfl⟩ : g = g' ∧ o + cap = c' := by injection hv with e1 e2 e3; injection e1 with e1; injection e1 with e1; exact ⟨e1, e3⟩
    refine ⟨g, o, cap, hoB, rfl, h3, h4, by omega, by unfold maxLen; omega, fun j c hc => ?_⟩
    have := hR (o * size + j) c (by rw [List.getElem?_append_right (by omega), hp, Nat.add_sub_cancel_left]; exact hc)
    rwa [Nat.zero_add] at this
theorem Tail.sl {B : Nat} {α : Type} {R : Reading α} {size : Nat} {f : α → List Value} {wf : α → Prop} (F : Flat R size f wf) {w : World} {base : Nat} {e : TypeId} {v : Value} {xs : List α} (h : Tail B w base e size v xs.length (rowsOf f xs)) (hwf : ∀ x ∈ xs, wf x) : Sl R size base w v xs := by
  by_cases hn : 0 < xs.length
  · obtain ⟨g, o, cap, -, rfl, h1, h2, h3, h4, hR⟩ := h.cells hn
    refine ⟨_, cap, rfl, h3, by unfold maxLen at h4; omega, fun _ => ⟨g, o * size, h1, rfl, fun i x hx => ⟨f x, F.back (hwf x (List.mem_of_getElem? hx)) _ _, fun j c hc => ?_⟩⟩⟩
    have := hR (i * size + j) c (F.get hx hc)
    rwa [← Nat.add_assoc] at this
  · have h1 : xs = [] := List.length_eq_zero_iff.1 (by omega)
    subst h1
    rcases h.2 with ⟨rfl, _⟩ | ⟨g, o, cap, pre, hoB, rfl, hp, h2⟩
    · exact Sl.nil
    · refine ⟨_, cap, rfl, Nat.zero_le _, ?_, fun h => absurd h (by simp)⟩
      rcases h2.2 with ⟨hv, _⟩ | ⟨g', cap', cur, hv, b1, b2, b3, b4, _⟩
      · cases hv
      · injection hv with e1 e2 e3
        unfold maxLen at b4; omega
/-- One element less in front. -/
theorem Tail.tail {B : Nat} {w : World} {base : Nat} {e : TypeId} {size : Nat} {g o n cap : Nat} {x xs : List Value} (h : Tail B w base e size (.slice (some ⟨g, o * size, none⟩) (n + 1) (cap + 1)) (n + 1) (x ++ xs)) (hs : 0 < size) (hx : x.length = size) : Tail (B + 1) w base e size (.slice (some ⟨g, (o + 1) * size, none⟩) n cap) n xs := by
  have h1 := h.1
  rw [List.length_append, hx, Nat.succ_mul] at h1
  refine ⟨by omega, ?_⟩
  rcases h.2 with ⟨hv, _⟩ | ⟨g', o', cap', pre, hoB, hv, hp, h2⟩
  · cases hv
  · injection hv with e1 e2 e3
    injection e1 with e1
    injection e1 with e1 e4
    subst e1
    obtain rfl : o = o' := Nat.eq_of_mul_eq_mul_right hs e4
    subst e3
    refine .inr ⟨g, o + 1, cap, pre ++ x, by omega, rfl, by rw [List.length_append, hp, hx, Nat.succ_mul], ?_⟩
    have e5 : o + 1 + n = o + (n + 1) := by omega
    have e6 : o + 1 + cap = o + (cap + 1) := by omega
    rw [e5, e6, List.append_assoc]; exact h2

theorem add_none' (b off n : Nat) : (⟨b, off, none⟩ : Addr).add n = ⟨b, off + n, none⟩ := by unfold Addr.add; split <;> simp_all
section
variable {P : Program} (w : World)
theorem run_append_tail (t ty : TypeId) (base : Nat) (e : TypeId) (i : TypeInfo) (z : Value) (size bytes : Nat) (ht : P.underlying t = some (.slice e)) (hi : P.info? e = some i) (hz : i.zero = some z)
    (hsize : i.size = size) (hby : i.bytes = bytes) (hzs : z.cells.size = size) (hsz : 0 < size)
    (v : Value) (n : Nat) (xs : List Value) {B : Nat} (hown : Tail B w base e size v n xs)
    (ad : Addr) (m c : Nat) (news : List Value) (hl : news.length = m * size) (hnews : ∀ j u, news[j]? = some u → w.cell? (ad.add j) = some u) (h1 : ∀ u ∈ news, u.oneCell' = true)
    (hm : 0 < m) (h63 : B + n + m ≤ maxLen) (hbytes : (B + n + m) * bytes ≤ 140737488355328) (hbase : base ≤ w.heap.size) :
    ∃ v' w', (Builtin.append_ #[t, t] ty #[v, .slice (some ad) m c]).run P w = .ok v' w' ∧
      Tail B w' base e size v' (n + m) (xs ++ news) ∧ w.grownBy w' v.ownBlock ∧ (v'.ownBlock = v.ownBlock ∨ v'.ownBlock = some w.heap.size) := by
  have hlen : (xs ++ news).length = (n + m) * size := by rw [List.length_append, hown.1, hl, Nat.add_mul]
  rcases hown.2 with ⟨rfl, rfl⟩ | ⟨g, o, cap, pre, hoB, rfl, hp, h2⟩
  · have hx : xs = [] := List.eq_nil_of_length_eq_zero (by simpa using hown.1)
    subst hx
    obtain ⟨g, cap, w', hr, h2, h3, h4, h5⟩ := run_append_lies (P := P) w t ty base e i z size bytes ht hi hz hsize hby hzs hsz (.slice none 0 0) 0 [] ⟨by simp, .inl ⟨rfl, rfl⟩⟩ ad m c news hl hnews h1 hm (by omega) (Nat.le_trans (Nat.mul_le_mul_right _ (by omega)) hbytes) hbase _ rfl
    refine ⟨_, w', hr, Tail.of h2, h3, .inr ?_⟩
    rcases h4 with h4 | h4
    · cases h4
    · rw [h4]; rfl
  · have hsrc : Src P i.size t (.slice (some ad) m c) m news w := Src.ofSlice w ht ad m c news (by rw [hsize]; exact hl) hnews h1
    obtain ⟨g', c', hv, b1, b2, b3, b4, hR, hW⟩ : ∃ g' c', (Value.slice (some ⟨g, 0, none⟩) (o + n) (o + cap)) = .slice (some ⟨g', 0, none⟩) (o + n) c' ∧ base ≤ g' ∧ g' < w.heap.size ∧ o + n ≤ c' ∧ c' ≤ maxLen ∧ (∀ j u, xs[j]? = some u → w.cell? ⟨g', o * size + j, none⟩ = some u) ∧ (∀ j, j < c' * size → (w.cell? ⟨g', j, none⟩).isSome = true ∧ w.frozen? ⟨g', j, none⟩ = false) := by
      rcases h2.2 with ⟨hv, _⟩ | ⟨g', c', cur, hv, b1, b2, b3, b4, b5, b6⟩
      · cases hv
      · have hlt : g' < w.heap.size := by
          rcases Nat.lt_or_ge g' w.heap.size with h | h
          · exact h
          · rw [Array.getElem?_eq_none h] at b2; cases b2
        refine ⟨g', c', hv, b1, hlt, b3, b4, fun j u hj => ?_, fun j hj => ?_⟩
        · have hj' : (pre ++ xs)[o * size + j]? = some u := by rw [List.getElem?_append_right (by omega), hp, Nat.add_sub_cancel_left]; exact hj
          rw [← b6, List.getElem?_take] at hj'
          split at hj'
          · rw [cell_of_row w g' _ cur e (0, 0) b2]; simpa using hj'
          · cases hj'
        · have hjc : j < cur.size := by rw [b5]; exact hj
          refine ⟨?_, by simp [World.frozen?, b2]⟩
          rw [cell_of_row w g' _ cur e (0, 0) b2, Array.getElem?_eq_getElem hjc]; rfl
    obtain ⟨rfl, rfl⟩ : g = g' ∧ o + cap = c' := by injection hv with e1 e2 e3; injection e1 with e1; injection e1 with e1; exact ⟨e1, e3⟩
    by_cases hroom : n + m ≤ cap
    · have hr := run_append_room_src (P := P) w t t ty e i ht hi g (o * size) n cap (.slice (some ad) m c) m news hsrc hroom (fun j hj => ?_) (fun j hj => ?_)
      · have hf := run_append_room_src (P := P) w t t ty e i ht hi g 0 (o + n) (o + cap) (.slice (some ad) m c) m news hsrc (by omega) (fun j hj => ?_) (fun j hj => ?_)
        · obtain ⟨g1, cap1, w1, hr1, ho1, hg1, -, -⟩ := run_append_lies (P := P) w t ty base e i z size bytes ht hi hz hsize hby hzs hsz (.slice (some ⟨g, 0, none⟩) (o + n) (o + cap)) (o + n) (pre ++ xs) h2 ad m c news hl hnews h1 hm (by omega) (Nat.le_trans (Nat.mul_le_mul_right _ (by omega)) hbytes) hbase _ rfl
          · rw [hf] at hr1
            injection hr1 with e1 e2
            injection e1 with e3 e4 e5
            injection e3 with e3
            injection e3 with e3
            subst e3; subst e5
            have eo : o * size + n * i.size = 0 + (o + n) * i.size := by rw [hsize, Nat.add_mul]; omega
            rw [eo, e2] at hr
            refine ⟨_, w1, hr, ⟨hlen, .inr ⟨g, o, cap, pre, hoB, rfl, hp, ?_⟩⟩, hg1, .inl rfl⟩
            rw [← List.append_assoc, ← Nat.add_assoc]; exact ho1
        · rw [Nat.zero_add, hsize]; exact (hW _ (by have h3 : (o + n + m) * size ≤ (o + cap) * size := Nat.mul_le_mul_right _ (by omega); rw [Nat.add_mul (o + n)] at h3; omega)).1
        · rw [Nat.zero_add, hsize]; exact (hW _ (by have h3 : (o + n + m) * size ≤ (o + cap) * size := Nat.mul_le_mul_right _ (by omega); rw [Nat.add_mul (o + n)] at h3; omega)).2
      · rw [hsize]; exact (hW _ (by have h3 : (o + n + m) * size ≤ (o + cap) * size := Nat.mul_le_mul_right _ (by omega); rw [Nat.add_mul (o + n), Nat.add_mul o n] at h3; omega)).1
      · rw [hsize]; exact (hW _ (by have h3 : (o + n + m) * size ≤ (o + cap) * size := Nat.mul_le_mul_right _ (by omega); rw [Nat.add_mul (o + n), Nat.add_mul o n] at h3; omega)).2
    · have hr := run_append_grow (P := P) w t ty e i z ht hi hz ⟨g, o * size, none⟩ n cap xs (by rw [hsize]; exact hown.1) (fun j u hj => by rw [add_none']; exact hR j u hj) ad m c news (by rw [hsize]; exact hl) hnews (by omega) (by unfold maxLen at h63; omega) (growslice_fits (by omega) (Nat.le_trans (Nat.mul_le_mul_right _ (by omega)) (hby ▸ hbytes)))
      have hge := grownCap_ge w (n + m) cap e
      have hcm : grownCap w (n + m) cap e ≤ maxLen := grownCap_le_maxLen w (n + m) cap e (by omega)
      refine ⟨_, _, hr, Tail.of ⟨hlen, .inr ⟨w.heap.size, _, _, rfl, hbase, heap_alloc_new w.drew _, hge, hcm, ?_, ?_⟩⟩, ⟨rfl, rfl, rfl, by simp, fun k hk _ => heap_alloc_old w.drew _ hk⟩, .inr rfl⟩
      · simp only [Array.size_append, List.size_toArray, size_zeroCells, hzs, hown.1, hl, ← Nat.add_mul]
        congr 1
        omega
      · simp only [Array.toList_append, List.append_assoc]
        rw [← List.append_assoc, ← hlen]
        exact List.take_left
/-- At the list of a plain region's operations. -/
theorem wpList_append_tail {ops : Array Oper} {rest : List Oper} {o : Oper} {a : Act} {Q : Exit → Act → World → Prop} (hgd : o.guard = none) (s x : Operand) (t : TypeId)
    (ho : o.op = .call { callee := .builtin .append, args := #[s, x], argTypes := #[t, t] })
    (base : Nat) (e : TypeId) (i : TypeInfo) (z : Value) (size bytes : Nat) (ht : P.underlying t = some (.slice e)) (hi : P.info? e = some i) (hz : i.zero = some z)
    (hsize : i.size = size) (hby : i.bytes = bytes) (hzs : z.cells.size = size) (hsz : 0 < size)
    (v : Value) (n : Nat) (xs : List Value) (hs : a.eval s = v) {B : Nat} (hown : Tail B w base e size v n xs)
    (ad : Addr) (m c : Nat) (news : List Value) (hx : a.eval x = .slice (some ad) m c) (hl : news.length = m * size) (hnews : ∀ j u, news[j]? = some u → w.cell? (ad.add j) = some u) (h1 : ∀ u ∈ news, u.oneCell' = true)
    (hm : 0 < m) (h63 : B + n + m ≤ maxLen) (hbytes : (B + n + m) * bytes ≤ 140737488355328) (hbase : base ≤ w.heap.size) (H : Nat) (hH : w.heap.size = H)
    (h : ∀ v' w', Tail B w' base e size v' (n + m) (xs ++ news) → w.grownBy w' v.ownBlock → (v'.ownBlock = v.ownBlock ∨ v'.ownBlock = some H) → wpList P ops Q rest (a.put o.dst v') w') : wpList P ops Q (o :: rest) a w :=
  wpList_plain hgd fun _ hK => by
    obtain ⟨v', w', hr, h2, h3, h4⟩ := run_append_tail (P := P) w t o.type base e i z size bytes ht hi hz hsize hby hzs hsz v n xs hown ad m c news hl hnews h1 hm h63 hbytes hbase
    unfold Oper.wp execOp
    simp only [ho, resolve, invoke, builtin, Sem.run_bind, Sem.run_pure, Result.andThen_ok, List.map_toArray, List.map_cons, List.map_nil, hs, hx, hr]
    exact hK _ _ (h v' w' h2 h3 (hH ▸ h4))
end

end Go.Proofs.YtcjoheplilaccaaGreat

/- A whole slice appended to the tail of a row that the call owns. No program is named here. -/
namespace Go.Proofs.YtcjoheplilaccaaGreat
open Go.RowKit
set_option linter.unusedVariables false
set_option linter.unusedSimpArgs false

section
variable {α : Type} {R : Reading α} {size : Nat} {f : α → List Value} {wf : α → Prop} {P : Program} (w : World)
theorem run_append_tailS (F : Flat R size f wf) (t ty : TypeId) (base : Nat) (e : TypeId) (i : TypeInfo) (z : Value) (bytes : Nat) (ht : P.underlying t = some (.slice e)) (hi : P.info? e = some i) (hz : i.zero = some z)
    (hsize : i.size = size) (hby : i.bytes = bytes) (hzs : z.cells.size = size)
    (ad0 : Addr) (n c0 : Nat) (xs : List Value) {B : Nat} (hown : Tail B w base e size (.slice (some ad0) n c0) n xs)
    (lo : Nat) (u : Value) (ys : List α) (hu : Sl R size lo w u ys)
    (h63 : B + n + ys.length ≤ maxLen) (hbytes : (B + n + ys.length) * bytes ≤ 140737488355328) (hbase : base ≤ w.heap.size) :
    ∃ v' w', (Builtin.append_ #[t, t] ty #[.slice (some ad0) n c0, u]).run P w = .ok v' w' ∧
      Tail B w' base e size v' (n + ys.length) (xs ++ rowsOf f ys) ∧ w.grownBy w' (Value.slice (some ad0) n c0).ownBlock ∧ (v'.ownBlock = (Value.slice (some ad0) n c0).ownBlock ∨ v'.ownBlock = some w.heap.size) := by
  obtain ⟨a, c, rfl, l1, m1, hh⟩ := hu
  by_cases h0 : 0 < ys.length
  · obtain ⟨b, off, _, hbs, rfl, hrow⟩ := F.cells hh h0
    exact run_append_tail (P := P) w t ty base e i z size bytes ht hi hz hsize hby hzs F.pos _ n xs hown ⟨b, off, none⟩ ys.length c (rowsOf f ys) (F.length ys) (fun j u hj => by
      have hadd : (⟨b, off, none⟩ : Addr).add j = ⟨b, off + j, none⟩ := by unfold Addr.add; split <;> simp_all
      rw [hadd]; exact hrow j u hj) (F.ones ys) h0 h63 hbytes hbase
  · have e0 : ys = [] := List.length_eq_zero_iff.1 (by omega)
    subst e0
    have hs : Src P i.size t (.slice a 0 c) 0 [] w := by
      cases a with
      | none => exact Src.ofNil w ht c
      | some a => exact Src.ofSlice w ht a 0 c [] (by simp) (fun j u h => by simp at h) (fun u h => by simp at h)
    rcases hown.2 with ⟨hv, _⟩ | ⟨g, o, cap, pre, hoB, hv, hp, h2⟩
    · cases hv
    · obtain ⟨rfl, rfl⟩ : ad0 = ⟨g, o * size, none⟩ ∧ c0 = cap := by injection hv with e1 e2 e3; injection e1 with e1; exact ⟨e1, e3⟩
      have hn : n ≤ c0 := by
        rcases h2.2 with ⟨hv, _⟩ | ⟨g', cap', cur, hv, h1, h2, h3, _⟩
        · cases hv
        · injection hv with e1 e2 e3; omega
      have hr := run_append_room_src (P := P) w t t ty e i ht hi g (o * size) n c0 (.slice a 0 c) 0 [] hs (by omega) (fun j h => by simp at h) (fun j h => by simp at h)
      exact ⟨.slice (some ⟨g, o * size, none⟩) n c0, w, by simpa [World.setCells] using hr, by simpa [rowsOf] using hown, ⟨rfl, rfl, rfl, Nat.le_refl _, fun _ _ _ => rfl⟩, .inl rfl⟩
/-- As Tail, or empty without room. -/
def Tail0 (B : Nat) (w : World) (base : Nat) (e : TypeId) (size : Nat) (v : Value) (n : Nat) (xs : List Value) : Prop := Tail B w base e size v n xs ∨ (n = 0 ∧ xs = [] ∧ ∃ g o, v = .slice (some ⟨g, o, none⟩) 0 0)
theorem Tail0.kept {B : Nat} {S : Nat → Prop} {w w' : World} {base : Nat} {e : TypeId} {size : Nat} {v : Value} {n : Nat} {xs : List Value} (h : Tail0 B w base e size v n xs) (hk : Kept S w w') (hS : ∀ g, v.ownBlock = some g → ¬ S g) : Tail0 B w' base e size v n xs := by
  rcases h with h | h
  · exact .inl (h.kept hk hS)
  · exact .inr h
theorem Tail0.below {B : Nat} {w w' : World} {base : Nat} {e : TypeId} {size : Nat} {v : Value} {n : Nat} {xs : List Value} (h : Tail0 B w base e size v n xs) (hb : Below w.heap.size w w') : Tail0 B w' base e size v n xs := by
  rcases h with h | h
  · exact .inl (h.below hb)
  · exact .inr h
theorem Tail0.form {B : Nat} {w : World} {base : Nat} {e : TypeId} {size : Nat} {v : Value} {n : Nat} {xs : List Value} (h : Tail0 B w base e size v n xs) : ∃ a c, v = .slice a n c := by
  rcases h with h | ⟨rfl, _, g, o, rfl⟩
  · exact h.form
  · exact ⟨_, _, rfl⟩
theorem run_append_tail0 (F : Flat R size f wf) (t ty : TypeId) (base : Nat) (e : TypeId) (i : TypeInfo) (z : Value) (bytes : Nat) (ht : P.underlying t = some (.slice e)) (hi : P.info? e = some i) (hz : i.zero = some z)
    (hsize : i.size = size) (hby : i.bytes = bytes) (hzs : z.cells.size = size)
    (ad0 : Addr) (n c0 : Nat) (xs : List Value) {B : Nat} (hown : Tail0 B w base e size (.slice (some ad0) n c0) n xs)
    (lo : Nat) (u : Value) (ys : List α) (hu : Sl R size lo w u ys)
    (h63 : B + n + ys.length ≤ maxLen) (hbytes : (B + n + ys.length) * bytes ≤ 140737488355328) (hbase : base ≤ w.heap.size) :
    ∃ v' w', (Builtin.append_ #[t, t] ty #[.slice (some ad0) n c0, u]).run P w = .ok v' w' ∧
      Tail0 B w' base e size v' (n + ys.length) (xs ++ rowsOf f ys) ∧ w.grownBy w' (Value.slice (some ad0) n c0).ownBlock ∧ (v'.ownBlock = (Value.slice (some ad0) n c0).ownBlock ∨ v'.ownBlock = some w.heap.size ∧ w.heap.size < w'.heap.size) := by
  rcases hown with hown | ⟨rfl, rfl, g0, o0, hv⟩
  · obtain ⟨v', w', h1, h2, h3, h4⟩ := run_append_tailS (P := P) w F t ty base e i z bytes ht hi hz hsize hby hzs ad0 n c0 xs hown lo u ys hu h63 hbytes hbase
    exact ⟨v', w', h1, .inl h2, h3, h4.imp id fun e => ⟨e, (h2.block _ e).2⟩⟩
  · obtain ⟨rfl, rfl⟩ : ad0 = ⟨g0, o0, none⟩ ∧ c0 = 0 := by injection hv with e1 e2 e3; injection e1 with e1; exact ⟨e1, e3⟩
    obtain ⟨a, c, rfl, l1, m1, hh⟩ := hu
    by_cases h0 : 0 < ys.length
    · obtain ⟨b, off, _, hbs, rfl, hrow⟩ := F.cells hh h0
      have hlen : (rowsOf f ys).length = ys.length * size := F.length ys
      have hr := run_append_grow (P := P) w t ty e i z ht hi hz ⟨g0, o0, none⟩ 0 0 [] (by simp) (fun j u hj => by simp at hj) ⟨b, off, none⟩ ys.length c (rowsOf f ys) (by rw [hsize]; exact hlen) (fun j u hj => by rw [add_none']; exact hrow j u hj) (by omega) (by unfold maxLen at h63; omega) (growslice_fits (by omega) (Nat.le_trans (Nat.mul_le_mul_right _ (by omega)) (hby ▸ hbytes)))
      have hge := grownCap_ge w (0 + ys.length) 0 e
      have hcm : grownCap w (0 + ys.length) 0 e ≤ maxLen := grownCap_le_maxLen w (0 + ys.length) 0 e (by omega)
      refine ⟨_, _, hr, .inl (Tail.of ⟨by rw [List.nil_append, hlen, Nat.zero_add], .inr ⟨w.heap.size, _, _, rfl, hbase, heap_alloc_new w.drew _, hge, hcm, ?_, ?_⟩⟩), ⟨rfl, rfl, rfl, by simp, fun k hk _ => heap_alloc_old w.drew _ hk⟩, .inr ⟨rfl, by simp⟩⟩
      · simp only [Array.size_append, List.size_toArray, size_zeroCells, hzs, List.length_nil, hlen, ← Nat.add_mul, Nat.zero_add] at hge ⊢
        congr 1
        omega
      · simp only [Array.toList_append, List.append_assoc]
        rw [List.nil_append, Nat.zero_add, ← hlen]
        exact List.take_left
    · have e0 : ys = [] := List.length_eq_zero_iff.1 (by omega)
      subst e0
      have hs : Src P i.size t (.slice a 0 c) 0 [] w := by
        cases a with
        | none => exact Src.ofNil w ht c
        | some a => exact Src.ofSlice w ht a 0 c [] (by simp) (fun j u h => by simp at h) (fun u h => by simp at h)
      have hr := run_append_room_src (P := P) w t t ty e i ht hi g0 o0 0 0 (.slice a 0 c) 0 [] hs (by omega) (fun j h => by simp at h) (fun j h => by simp at h)
      exact ⟨.slice (some ⟨g0, o0, none⟩) 0 0, w, by simpa [World.setCells] using hr, .inr ⟨rfl, by simp [rowsOf], _, _, rfl⟩, ⟨rfl, rfl, rfl, Nat.le_refl _, fun _ _ _ => rfl⟩, .inl rfl⟩
/-- At the list of a plain region's operations. -/
theorem wpList_append_tailS (F : Flat R size f wf) {ops : Array Oper} {rest : List Oper} {o : Oper} {a : Act} {Q : Exit → Act → World → Prop} (hgd : o.guard = none) (s x : Operand) (t : TypeId)
    (ho : o.op = .call { callee := .builtin .append, args := #[s, x], argTypes := #[t, t] })
    (base : Nat) (e : TypeId) (i : TypeInfo) (z : Value) (bytes : Nat) (ht : P.underlying t = some (.slice e)) (hi : P.info? e = some i) (hz : i.zero = some z)
    (hsize : i.size = size) (hby : i.bytes = bytes) (hzs : z.cells.size = size)
    (ad0 : Addr) (n c0 : Nat) (xs : List Value) (hs : a.eval s = .slice (some ad0) n c0) {B : Nat} (hown : Tail0 B w base e size (.slice (some ad0) n c0) n xs)
    (lo : Nat) (u : Value) (ys : List α) (hx : a.eval x = u) (hu : Sl R size lo w u ys)
    (h63 : B + n + ys.length ≤ maxLen) (hbytes : (B + n + ys.length) * bytes ≤ 140737488355328) (hbase : base ≤ w.heap.size) (H : Nat) (hH : w.heap.size = H)
    (h : ∀ v' w', Tail0 B w' base e size v' (n + ys.length) (xs ++ rowsOf f ys) → w.grownBy w' (Value.slice (some ad0) n c0).ownBlock → (v'.ownBlock = (Value.slice (some ad0) n c0).ownBlock ∨ v'.ownBlock = some H ∧ H < w'.heap.size) → wpList P ops Q rest (a.put o.dst v') w') : wpList P ops Q (o :: rest) a w :=
  wpList_plain hgd fun _ hK => by
    obtain ⟨v', w', hr, h2, h3, h4⟩ := run_append_tail0 (P := P) w F t o.type base e i z bytes ht hi hz hsize hby hzs ad0 n c0 xs hown lo u ys hu h63 hbytes hbase
    unfold Oper.wp execOp
    simp only [ho, resolve, invoke, builtin, Sem.run_bind, Sem.run_pure, Result.andThen_ok, List.map_toArray, List.map_cons, List.map_nil, hs, hx, hr]
    subst hH
    exact hK _ _ (h v' w' h2 h3 h4)
end
end Go.Proofs.YtcjoheplilaccaaGreat
