/- slices.Concat of two slices of strings: the walk. -/
import Derived.Test.YtigacgfaliicaaaConcat
namespace Go.Proofs.Ytigacgfaliicaaa
open Go.RowKit
set_option linter.unusedVariables false
set_option linter.unusedSimpArgs false
attribute [local go_sem] Ext.cell

theorem own_strs {w : World} {base g cap : Nat} {zs : List ByteArray} (h : w.ownsRow base 9 1 (.slice (some ⟨g, 0, none⟩) zs.length cap) zs.length (zs.map Value.string)) (hok : ∀ y ∈ zs, StrOk y) : Sl StrR 1 base w (.slice (some ⟨g, 0, none⟩) zs.length cap) zs :=
  own_sl (R := StrR) (f := Value.string) zs h fun x hx => ⟨rfl, hok x hx⟩
theorem Sl.ok {lo : Nat} {w : World} {v : Value} {xs : List ByteArray} (h : Sl StrR 1 lo w v xs) : ∀ y ∈ xs, StrOk y := by
  intro y hy
  obtain ⟨i, hi, rfl⟩ := List.getElem_of_mem hy
  obtain ⟨a, c, rfl, _, _, h0⟩ := h
  obtain ⟨b, off, x, r, _, _, P1, ⟨_, hx⟩, _⟩ := h0.get (Lib.hid rfl) hi
  obtain rfl : xs[i] = x := by have := P1.out; rw [List.getElem?_eq_getElem hi] at this; exact Option.some.inj this
  exact hx
theorem append_none (w : World) (ty : TypeId) (g n cap c : Nat) (sa : Option Addr) (hn : n ≤ cap) :
    (Builtin.append_ #[22, 22] ty #[.slice (some ⟨g, 0, none⟩) n cap, .slice sa 0 c]).run Try.prog w = .ok (.slice (some ⟨g, 0, none⟩) n cap) w := by
  obtain ⟨i0, hi0, hz0, hz1, hz2⟩ := info_parts info_str
  have hs : Src Try.prog i0.size 22 (.slice sa 0 c) 0 [] w := by
    cases sa with
    | none => exact Src.ofNil w Try.underlying22 c
    | some a => exact Src.ofSlice w Try.underlying22 a 0 c [] (by simp) (fun j u h => by simp at h) (fun u h => by simp at h)
  have := run_append_room_src (P := Try.prog) w 22 22 ty 9 i0 Try.underlying22 hi0 g 0 n cap (.slice sa 0 c) 0 [] hs (by omega) (fun j h => by simp at h) (fun j h => by simp at h)
  simpa [World.setCells] using this

set_option maxRecDepth 100000 in
set_option maxHeartbeats 4000000 in
theorem concat_c (xs ys : List ByteArray) (hx0 : 0 < xs.length) (hx : xs.length ≤ 1000) (hy : ys.length ≤ 1000) (u1 u2 : Value) (lo b : Nat) (w : World) (h1 : Sl StrR 1 lo w u1 xs) (h2 : Sl StrR 1 lo w u2 ys) (hb : RowAt w b 0 [u1, u2]) :
    Calls Try.prog 25 #[.slice (some ⟨b, 0, none⟩) 2 2] w fun e w' => ∃ v, e = .returned v ∧ Sl StrR 1 0 w' v (xs ++ ys) ∧ Below w.heap.size w w' := by
  have ok1 := h1.ok
  have ok2 := h2.ok
  obtain ⟨a1, c1, rfl, l1, m1, s1⟩ := h1
  obtain ⟨a2, c2, rfl, l2, m2, s2⟩ := h2
  obtain ⟨n, hn⟩ : ∃ n, n = xs.length := ⟨_, rfl⟩
  obtain ⟨m, hm⟩ : ∃ m, m = ys.length := ⟨_, rfl⟩
  rw [← hn] at hb hx0 hx l1
  rw [← hm] at hb hy l2
  obtain ⟨i0, hi0, hz0, hz1, hz2⟩ := info_parts info_str
  have I := Lib.hid hi0; have I0 := Lib.hid hz0; have I1 := Lib.hid hz1; have I2 := Lib.hid hz2
  clear hi0 hz0 hz1 hz2
  replace hn := Lib.hid hn; replace hm := Lib.hid hm; replace s1 := Lib.hid s1; replace s2 := Lib.hid s2; replace ok1 := Lib.hid ok1; replace ok2 := Lib.hid ok2
  have gc : ∀ W, Calls Try.prog 42 #[.slice none 0 0, .int .i64 ((n : Int) + m)] W fun e w' => ∃ g cap, e = .returned (.slice (some ⟨g, 0, none⟩) 0 cap) ∧ w'.ownsRow W.heap.size 9 1 (.slice (some ⟨g, 0, none⟩) 0 cap) 0 [] ∧ Below W.heap.size W w' := fun W => by
    have := growNil_c (n + m) (by omega) (by omega) W
    simpa using this
  replace gc := Lib.hid gc
  go_enter Try.func25, Try.ntmps25
  go_wp2_with fail
  go_loopw [3, 11] (fun z i wr => ∃ (k t : Nat), i = .int .i64 k ∧ z = .int .i64 t ∧ Below w.heap.size w wr ∧ ((k = 0 ∧ t = 0) ∨ (k = 1 ∧ t = n) ∨ (k = 2 ∧ t = n + m))) (fun _ i _ => 2 - (intOf i).toNat)
  case atStart => exact ⟨0, 0, by simp, by simp, Below.refl _ _, .inl ⟨rfl, rfl⟩⟩
  case round =>
    obtain ⟨k, t, rfl, rfl, hw, hk⟩ := hrel
    obtain ⟨e0, e1⟩ := (hb.below hw).box2
    rcases hk with ⟨rfl, rfl⟩ | ⟨rfl, rfl⟩ | ⟨rfl, rfl⟩
    · go_wp2_with fail
      go_roundw
      case rel => exact ⟨1, n, by first | rfl | go_num, by first | rfl | go_num | simp, hw, .inr (.inl ⟨rfl, rfl⟩)⟩
      case measure => simp [intOf]
    · go_wp2_with fail
      go_roundw
      case rel => exact ⟨2, t + m, by first | rfl | go_num, by go_num, hw, .inr (.inr ⟨rfl, rfl⟩)⟩
      case measure => simp [intOf]
    · have ht : ((n + m : Nat) : Int) = (n : Int) + m := by omega
      rw [ht]
      clear ht e0 e1
      go_wp2_with (go_at_call 42; ((with_reducible refine (gc.out _).mono ?_); rintro e w1 ⟨g, cap, rfl, O, hb1⟩))
      have O : w1.ownsRow w.heap.size 9 1 (.slice (some ⟨g, 0, none⟩) 0 cap) 0 [] := by
        refine ⟨O.1, ?_⟩
        rcases O.2 with h0 | ⟨g', cap', cur, hv, h1, h2⟩
        · exact .inl h0
        · exact .inr ⟨g', cap', cur, hv, Nat.le_trans hw.size h1, h2⟩
      have hw1 := hw.trans (hb1.mono hw.size)
      clear hw hb1 gc
      go_loopw [6, 27] (fun v i wr => ∃ (k : Nat) (zs : List ByteArray) (g cap : Nat), i = .int .i64 k ∧ v = .slice (some ⟨g, 0, none⟩) zs.length cap ∧ Below w.heap.size w wr ∧ wr.ownsRow w.heap.size 9 1 v zs.length (zs.map Value.string) ∧ Hid ((k = 0 ∧ zs = []) ∨ (k = 1 ∧ zs = xs) ∨ (k = 2 ∧ zs = xs ++ ys))) (fun _ i _ => 2 - (intOf i).toNat)
      case atStart => exact ⟨0, [], g, cap, by simp, rfl, hw1, O, .inl ⟨rfl, rfl⟩⟩
      case round =>
        clear O hw1
        obtain ⟨k, zs, g, cap, rfl, rfl, hw, O, hk⟩ := hrel
        obtain ⟨e0, e1⟩ := (hb.below hw).box2
        have hz := hw.size
        rcases hk.out with ⟨rfl, hzs⟩ | ⟨rfl, hzs⟩ | ⟨rfl, hzs⟩
        · subst hzs
          by_cases hm0 : 0 < n
          · obtain ⟨sb, so, x, r, _, rfl, _⟩ := s1.out.get hn hm0
            have hnews := Lib.hid ((s1.out.below StrR.good hw).news)
            have hst : ([] ++ xs).map Value.string = [] ++ xs.map Value.string := rfl
            replace O := Lib.hid O
            clear hk
            go_wp2_with (at_builtin; refine wpList_append_lies _ rfl _ _ _ rfl w.heap.size 9 i0 _ 1 16 Try.underlying22 I.out I0.out I1.out I2.out rfl (by omega) (.slice (some ⟨g, 0, none⟩) 0 cap) 0 [] rfl O.out ⟨sb, so, none⟩ n c1 (xs.map Value.string) rfl (by rw [List.length_map]; exact (by have := hn.out; omega)) hnews.out (fun u hu => by obtain ⟨x, _, rfl⟩ := List.mem_map.1 hu; rfl) (by omega) (by unfold maxLen; omega) (by omega) (by omega) _ rfl ?_; intro g' cap' w2 hown hgrow hat hlt2)
            have hw2 := below_grown2 (wr := wr) hgrow (Below.refl _ _) hw hz O.out
            go_roundw
            case rel => exact ⟨1, xs, g', cap', by first | rfl | go_num, by first | (rw [← hn.out]; done) | (rw [← hn.out]; simp), hw2, by rw [← hn.out]; simpa using hown, .inr (.inl ⟨rfl, rfl⟩)⟩
            case measure => simp [intOf]
          · omega
        · subst hzs
          by_cases hm0 : 0 < m
          · obtain ⟨sb, so, x, r, _, rfl, _⟩ := s2.out.get hm hm0
            have hnews := Lib.hid ((s2.out.below StrR.good hw).news)
            have hzn : zs.length = n := hn.out.symm
            have hzl : zs.length ≤ 1000 := by omega
            have hzn' := Lib.hid hzn
            clear hzn
            replace O := Lib.hid O
            clear hk
            go_wp2_with (at_builtin; refine wpList_append_lies _ rfl _ _ _ rfl w.heap.size 9 i0 _ 1 16 Try.underlying22 I.out I0.out I1.out I2.out rfl (by omega) (.slice (some ⟨g, 0, none⟩) zs.length cap) zs.length (zs.map Value.string) rfl O.out ⟨sb, so, none⟩ m c2 (ys.map Value.string) rfl (by rw [List.length_map]; exact (by have := hm.out; omega)) hnews.out (fun u hu => by obtain ⟨x, _, rfl⟩ := List.mem_map.1 hu; rfl) (by omega) (by unfold maxLen; omega) (by omega) (by omega) _ rfl ?_; intro g' cap' w2 hown hgrow hat hlt2)
            have hw2 := below_grown2 (wr := wr) hgrow (Below.refl _ _) hw hz O.out
            go_roundw
            case rel => exact ⟨2, zs ++ ys, g', cap', by first | rfl | go_num, by rw [List.length_append, ← hm.out], hw2, by rw [List.length_append, ← hm.out, List.map_append]; exact hown, .inr (.inr ⟨rfl, rfl⟩)⟩
            case measure => simp [intOf]
          · have hm00 : m = 0 := by omega
            have hys : ys = [] := List.length_eq_zero_iff.1 (by have := hm.out; omega)
            replace hys := Lib.hid hys
            have hcap : zs.length ≤ cap := by rcases O.2 with ⟨h0, _⟩ | ⟨g', cap', cur, hv, h1, h2, h3, _⟩
                                              · cases h0
                                              · injection hv with e1 e2 e3; omega
            have hrz : ∀ ty, (Builtin.append_ #[22, 22] ty #[.slice (some ⟨g, 0, none⟩) zs.length cap, .slice a2 m c2]).run Try.prog wr = .ok (.slice (some ⟨g, 0, none⟩) zs.length cap) wr := fun ty => by rw [hm00]; exact append_none wr ty g zs.length cap c2 a2 hcap
            clear hm00 hm0
            replace O := Lib.hid O
            clear hk
            go_wp2_with (at_builtin; refine Lib.wpList_append_run _ rfl _ _ _ _ rfl _ _ rfl rfl _ _ (hrz _) ?_)
            go_roundw
            case rel => exact ⟨2, zs, g, cap, by first | rfl | go_num, rfl, hw, O.out, .inr (.inr ⟨rfl, by rw [hys.out, List.append_nil]⟩)⟩
            case measure => simp [intOf]
        · subst hzs
          have hfin : Sl StrR 1 0 wr (.slice (some ⟨g, 0, none⟩) (xs ++ ys).length cap) (xs ++ ys) := (own_strs O (fun y hy => by rcases List.mem_append.1 hy with h | h; exact ok1.out y h; exact ok2.out y h)).mono StrR.good (Nat.zero_le _)
          replace hfin := Lib.hid hfin
          generalize (xs ++ ys).length = N at *
          clear O hk
          go_wp2_with fail
          go_returns
          exact ⟨_, rfl, hfin.out, hw⟩

end Go.Proofs.Ytigacgfaliicaaa
