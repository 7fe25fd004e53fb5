/- Parts of the proof, merged: Eq, Mark, Grow, FoInt. -/
import Derived.Test.YtkikkfjmggobpaaGreatRows
import Derived.Laws.IdiomStrings
import Derived.Test.YtkikkfjmggobpaaGreatDt4
namespace Go.Proofs.YtkikkfjmggobpaaGreat
open Go.RowKit
set_option maxRecDepth 100000
set_option maxHeartbeats 16000000
set_option linter.unusedVariables false
set_option linter.unusedSimpArgs false
attribute [local go_sem] Ext.cell
theorem eqIntS_c (x y:List Int) (u v:Value) (lo lo' : Nat) (w:World) (hx:Sl IntR 1 lo w u x) (hy:Sl IntR 1 lo' w v y) :
  Calls Tryz.prog 124 #[u,v] w fun e w'=>e=.returned (.bool (decide (x=y)))/\Below w.heap.size w w':=by
 obtain⟨a1,c1,rfl,l1,m1,h1⟩:=hx
 obtain⟨a2,c2,rfl,l2,m2,h2⟩:=hy
 obtain⟨n,hn⟩ : ∃n,n=x.length:=⟨_,rfl⟩
 obtain⟨m,hm⟩ : ∃m,m=y.length:=⟨_,rfl⟩
 rw[<- hn]at l1 ⊢
 rw[<- hm]at l2 ⊢
 have X1:=kH hn;have X2:=kH hm
 clear hn hm
 by_cases hl:n=m
 ·subst hl
  go_enter Tryz.func124,Tryz.ntmps124
  go_wp2_with fail
  go_loopw [5] (fun i wr=>∃k:Nat,k<=n/\i=.int .i64 k/\Hid (x.take k=y.take k)/\Below w.heap.size w wr) (fun i _=>n-(intOf i).toNat)
  case atStart=>exact⟨0,by omega,rfl,rfl,Below.refl _ _⟩
  case round=>
   obtain⟨k,hk,rfl,ht,hw⟩:=hrel
   by_cases hlt:k<n
   ·obtain⟨b1,o1,p,s1,_,rfl,P1,q1,r1⟩:=(h1.below IntR.good hw).get X1 hlt
    obtain⟨b2,o2,q,s2,_,rfl,P2,q2,r2⟩:=(h2.below IntR.good hw).get X2 hlt
    obtain⟨rfl,_⟩:=q1;obtain⟨rfl,_⟩:=q2
    have R1:∀z:Ext wr,z.val.cell? ⟨b1,o1+k,none⟩=some (.int .i64 p):=fun z=>by simpa using (r1.ext z) 0 _ rfl
    have R2:∀z:Ext wr,z.val.cell? ⟨b2,o2+k,none⟩=some (.int .i64 q):=fun z=>by simpa using (r2.ext z) 0 _ rfl
    clear r1 r2
    go_wp2_with fail
    refine wp_region_ext_lit (by kernel_rfl) (by kernel_rfl) ?_
    repeat (go_big_quiet_step ((fail)))
    refine wpQuiet_nil ?_
    rintro _ ⟨⟨w2,hw2⟩,rfl⟩
    clear R1 R2
    have hw3:=hw.trans (hw2.mono hw.size)
    generalize hd:(p != q)=d
    have E:=kH hd;clear hd
    cases d
    ·have E:=neq_of_int_false E.out
     have E:=kH E
     go_wp2
     go_roundw
     case rel=>exact⟨k+1,by omega,by go_num,by show _=_;rw[take_snoc' P1.out,take_snoc' P2.out,ht.out,E.out],hw3⟩
     case measure=>simp[intOf];omega
    ·have E:=neq_of_int_true E.out
     have E:=kH E
     go_wp2
     go_returns
     refine⟨?_,hw3⟩
     have:x≠y:=by
      rintro rfl
      exact E.out (Option.some.inj (P1.out.symm.trans P2.out))
     simp[this]
   ·go_wp2
    go_returns
    refine⟨?_,hw⟩
    obtain rfl:k=n:=by omega
    have h1:x=y:=by
     have:=ht.out
     rwa [take_full X1,take_full X2]at this
    simp[h1]
 ·go_enter Tryz.func124,Tryz.ntmps124
  go_wp2
  go_returns
  refine⟨?_,Below.refl _ _⟩
  have h1:x≠y:=by
   rintro rfl
   exact hl (X1.out.trans X2.out.symm)
  simp[h1]
theorem eqDNode_c (x y:GDNode) (r s:List Value) (lo lo' : Nat) (w:World) (hx:GDNode.R lo w r x) (hy:GDNode.R lo' w s y) :
  Calls Tryz.prog 81 #[.agg r.toArray,.agg s.toArray] w fun e w'=>e=.returned (.bool (decide (x=y)))/\Below w.heap.size w w':=by
 obtain⟨x0,x1,x2,x3⟩:=x
 obtain⟨y0,y1,y2,y3⟩:=y
 obtain⟨u0,rfl,⟨wx0,wx1,wx2⟩,a0⟩:=hx
 obtain⟨v0,rfl,⟨wy0,wy1,wy2⟩,b0⟩:=hy
 dsimp only at *
 go_enter Tryz.func81,Tryz.ntmps81
 go_wp2_with (first|(go_at_call 124;((with_reducible refine(eqIntS_c x3 y3 u0 v0 lo lo' _ ?_ ?_).mono ?_);exact a0.below IntR.good (by go_grown);exact b0.below IntR.good (by go_grown);rintro e w1 ⟨rfl,hb⟩;have hw:Below w.heap.size w w1:=Below.trans (by go_grown) (hb.mono (by go_grown));obtain⟨hc,hf⟩:=bcell hb;have hz:=hw.size;have hz1:=hb.size;have hs0:w.heap.size<w1.heap.size:=(by have h:=hz1;(try simp only[World.size_alloc,World.size_setCell,World.size_drew]at h);omega);have hs1:w.heap.size+1<w1.heap.size:=(by have h:=hz1;(try simp only[World.size_alloc,World.size_setCell,World.size_drew]at h);omega);clear hb)))
 all_goals (go_returns;refine⟨?_,by go_grown⟩;(try clear hc hf);simp_all [toList_eq]<;>grind)
theorem eqDNodeS_c (x y:List GDNode) (u v:Value) (lo lo' : Nat) (w:World) (hx:Sl GDNode.R 4 lo w u x) (hy:Sl GDNode.R 4 lo' w v y) :
  Calls Tryz.prog 36 #[u,v] w fun e w'=>e=.returned (.bool (decide (x=y)))/\Below w.heap.size w w':=by
 obtain⟨a1,c1,rfl,l1,m1,h1⟩:=hx
 obtain⟨a2,c2,rfl,l2,m2,h2⟩:=hy
 obtain⟨n,hn⟩ : ∃n,n=x.length:=⟨_,rfl⟩
 obtain⟨m,hm⟩ : ∃m,m=y.length:=⟨_,rfl⟩
 rw[<- hn]at l1 ⊢
 rw[<- hm]at l2 ⊢
 have X1:=kH hn;have X2:=kH hm
 clear hn hm
 by_cases hl:n=m
 ·subst hl
  go_enter Tryz.func36,Tryz.ntmps36
  go_wp2_with fail
  go_loopw [5] (fun i wr=>∃k:Nat,k<=n/\i=.int .i64 k/\Hid (x.take k=y.take k)/\Below w.heap.size w wr) (fun i _=>n-(intOf i).toNat)
  case atStart=>exact⟨0,by omega,rfl,rfl,Below.refl _ _⟩
  case round=>
   obtain⟨k,hk,rfl,ht,hw⟩:=hrel
   by_cases hlt:k<n
   ·obtain⟨b1,o1,p,s1,_,rfl,P1,q1,r1⟩:=(h1.below GDNode.good hw).get X1 hlt
    obtain⟨b2,o2,q,s2,_,rfl,P2,q2,r2⟩:=(h2.below GDNode.good hw).get X2 hlt
    have Q1:=q1;have Q2:=q2
    obtain⟨s0,rfl,_⟩:=q1;obtain⟨t0,rfl,_⟩:=q2
    have R1:∀z:Ext wr,z.val.cell? ⟨b1,o1+k*4,none⟩=some (.int .i64 p.kind)/\z.val.cell? ⟨b1,o1+k*4+1,none⟩=some (.int .i64 p.n)/\z.val.cell? ⟨b1,o1+k*4+2,none⟩=some (.string p.s)/\z.val.cell? ⟨b1,o1+k*4+3,none⟩=some (s0):=fun z=>⟨by simpa using (r1.ext z) 0 _ rfl,by simpa using (r1.ext z) 1 _ rfl,by simpa using (r1.ext z) 2 _ rfl,by simpa using (r1.ext z) 3 _ rfl⟩
    have R2:∀z:Ext wr,z.val.cell? ⟨b2,o2+k*4,none⟩=some (.int .i64 q.kind)/\z.val.cell? ⟨b2,o2+k*4+1,none⟩=some (.int .i64 q.n)/\z.val.cell? ⟨b2,o2+k*4+2,none⟩=some (.string q.s)/\z.val.cell? ⟨b2,o2+k*4+3,none⟩=some (t0):=fun z=>⟨by simpa using (r2.ext z) 0 _ rfl,by simpa using (r2.ext z) 1 _ rfl,by simpa using (r2.ext z) 2 _ rfl,by simpa using (r2.ext z) 3 _ rfl⟩
    clear r1 r2
    go_wp2_with fail
    refine wp_region_ext_lit (by kernel_rfl) (by kernel_rfl) ?_
    repeat (go_big_quiet_step (((go_at_call 81;exact Calls.ext (eqDNode_c p q _ _ _ _ _ (GDNode.good.below Q1 (Subtype.property _)) (GDNode.good.below Q2 (Subtype.property _)))))))
    refine wpQuiet_nil ?_
    rintro _ ⟨⟨w2,hw2⟩,rfl⟩
    clear R1 R2
    have hw3:=hw.trans (hw2.mono hw.size)
    generalize hd:(decide (p=q))=d
    have E:=kH hd;clear hd
    cases d
    ·have E:=neq_of_dec_false E.out
     have E:=kH E
     go_wp2
     go_returns
     refine⟨?_,hw3⟩
     have:x≠y:=by
      rintro rfl
      exact E.out (Option.some.inj (P1.out.symm.trans P2.out))
     simp[this]
    ·have E:=neq_of_dec_true E.out
     have E:=kH E
     go_wp2
     go_roundw
     case rel=>exact⟨k+1,by omega,by go_num,by show _=_;rw[take_snoc' P1.out,take_snoc' P2.out,ht.out,E.out],hw3⟩
     case measure=>simp[intOf];omega
   ·go_wp2
    go_returns
    refine⟨?_,hw⟩
    obtain rfl:k=n:=by omega
    have h1:x=y:=by
     have:=ht.out
     rwa [take_full X1,take_full X2]at this
    simp[h1]
 ·go_enter Tryz.func36,Tryz.ntmps36
  go_wp2
  go_returns
  refine⟨?_,Below.refl _ _⟩
  have h1:x≠y:=by
   rintro rfl
   exact hl (X1.out.trans X2.out.symm)
  simp[h1]
theorem eqData_c (x y:GData) (r s:List Value) (lo lo' : Nat) (w:World) (hx:GData.R lo w r x) (hy:GData.R lo' w s y) :
  Calls Tryz.prog 12 #[.agg r.toArray,.agg s.toArray] w fun e w'=>e=.returned (.bool (decide (x=y)))/\Below w.heap.size w w':=by
 obtain⟨x0⟩:=x
 obtain⟨y0⟩:=y
 obtain⟨u0,rfl,_,a0⟩:=hx
 obtain⟨v0,rfl,_,b0⟩:=hy
 dsimp only at *
 go_enter Tryz.func12,Tryz.ntmps12
 go_wp2_with (first|(go_at_call 36;((with_reducible refine(eqDNodeS_c x0 y0 u0 v0 lo lo' _ ?_ ?_).mono ?_);exact a0.below GDNode.good (by go_grown);exact b0.below GDNode.good (by go_grown);rintro e w1 ⟨rfl,hb⟩;have hw:Below w.heap.size w w1:=Below.trans (by go_grown) (hb.mono (by go_grown));obtain⟨hc,hf⟩:=bcell hb;have hz:=hw.size;have hz1:=hb.size;have hs0:w.heap.size<w1.heap.size:=(by have h:=hz1;(try simp only[World.size_alloc,World.size_setCell,World.size_drew]at h);omega);have hs1:w.heap.size+1<w1.heap.size:=(by have h:=hz1;(try simp only[World.size_alloc,World.size_setCell,World.size_drew]at h);omega);clear hb)))
 all_goals (go_returns;refine⟨?_,by go_grown⟩;(try clear hc hf);simp_all [toList_eq]<;>grind)
theorem eqPNode_c (x y:GPNode) (r s:List Value) (lo lo' : Nat) (w:World) (hx:GPNode.R lo w r x) (hy:GPNode.R lo' w s y) :
  Calls Tryz.prog 186 #[.agg r.toArray,.agg s.toArray] w fun e w'=>e=.returned (.bool (decide (x=y)))/\Below w.heap.size w w':=by
 obtain⟨x0,x1,x2,x3⟩:=x
 obtain⟨y0,y1,y2,y3⟩:=y
 obtain⟨u0,rfl,⟨wx0,wx1,wx2⟩,a0⟩:=hx
 obtain⟨v0,rfl,⟨wy0,wy1,wy2⟩,b0⟩:=hy
 dsimp only at *
 go_enter Tryz.func186,Tryz.ntmps186
 go_wp2_with (first|(go_at_call 124;((with_reducible refine(eqIntS_c x3 y3 u0 v0 lo lo' _ ?_ ?_).mono ?_);exact a0.below IntR.good (by go_grown);exact b0.below IntR.good (by go_grown);rintro e w1 ⟨rfl,hb⟩;have hw:Below w.heap.size w w1:=Below.trans (by go_grown) (hb.mono (by go_grown));obtain⟨hc,hf⟩:=bcell hb;have hz:=hw.size;have hz1:=hb.size;have hs0:w.heap.size<w1.heap.size:=(by have h:=hz1;(try simp only[World.size_alloc,World.size_setCell,World.size_drew]at h);omega);have hs1:w.heap.size+1<w1.heap.size:=(by have h:=hz1;(try simp only[World.size_alloc,World.size_setCell,World.size_drew]at h);omega);clear hb)))
 all_goals (go_returns;refine⟨?_,by go_grown⟩;(try clear hc hf);simp_all [toList_eq]<;>grind)
theorem eqPNodeS_c (x y:List GPNode) (u v:Value) (lo lo' : Nat) (w:World) (hx:Sl GPNode.R 4 lo w u x) (hy:Sl GPNode.R 4 lo' w v y) :
  Calls Tryz.prog 176 #[u,v] w fun e w'=>e=.returned (.bool (decide (x=y)))/\Below w.heap.size w w':=by
 obtain⟨a1,c1,rfl,l1,m1,h1⟩:=hx
 obtain⟨a2,c2,rfl,l2,m2,h2⟩:=hy
 obtain⟨n,hn⟩ : ∃n,n=x.length:=⟨_,rfl⟩
 obtain⟨m,hm⟩ : ∃m,m=y.length:=⟨_,rfl⟩
 rw[<- hn]at l1 ⊢
 rw[<- hm]at l2 ⊢
 have X1:=kH hn;have X2:=kH hm
 clear hn hm
 by_cases hl:n=m
 ·subst hl
  go_enter Tryz.func176,Tryz.ntmps176
  go_wp2_with fail
  go_loopw [5] (fun i wr=>∃k:Nat,k<=n/\i=.int .i64 k/\Hid (x.take k=y.take k)/\Below w.heap.size w wr) (fun i _=>n-(intOf i).toNat)
  case atStart=>exact⟨0,by omega,rfl,rfl,Below.refl _ _⟩
  case round=>
   obtain⟨k,hk,rfl,ht,hw⟩:=hrel
   by_cases hlt:k<n
   ·obtain⟨b1,o1,p,s1,_,rfl,P1,q1,r1⟩:=(h1.below GPNode.good hw).get X1 hlt
    obtain⟨b2,o2,q,s2,_,rfl,P2,q2,r2⟩:=(h2.below GPNode.good hw).get X2 hlt
    have Q1:=q1;have Q2:=q2
    obtain⟨s0,rfl,_⟩:=q1;obtain⟨t0,rfl,_⟩:=q2
    have R1:∀z:Ext wr,z.val.cell? ⟨b1,o1+k*4,none⟩=some (.int .i64 p.kind)/\z.val.cell? ⟨b1,o1+k*4+1,none⟩=some (.int .i64 p.n)/\z.val.cell? ⟨b1,o1+k*4+2,none⟩=some (.string p.s)/\z.val.cell? ⟨b1,o1+k*4+3,none⟩=some (s0):=fun z=>⟨by simpa using (r1.ext z) 0 _ rfl,by simpa using (r1.ext z) 1 _ rfl,by simpa using (r1.ext z) 2 _ rfl,by simpa using (r1.ext z) 3 _ rfl⟩
    have R2:∀z:Ext wr,z.val.cell? ⟨b2,o2+k*4,none⟩=some (.int .i64 q.kind)/\z.val.cell? ⟨b2,o2+k*4+1,none⟩=some (.int .i64 q.n)/\z.val.cell? ⟨b2,o2+k*4+2,none⟩=some (.string q.s)/\z.val.cell? ⟨b2,o2+k*4+3,none⟩=some (t0):=fun z=>⟨by simpa using (r2.ext z) 0 _ rfl,by simpa using (r2.ext z) 1 _ rfl,by simpa using (r2.ext z) 2 _ rfl,by simpa using (r2.ext z) 3 _ rfl⟩
    clear r1 r2
    go_wp2_with fail
    refine wp_region_ext_lit (by kernel_rfl) (by kernel_rfl) ?_
    repeat (go_big_quiet_step (((go_at_call 186;exact Calls.ext (eqPNode_c p q _ _ _ _ _ (GPNode.good.below Q1 (Subtype.property _)) (GPNode.good.below Q2 (Subtype.property _)))))))
    refine wpQuiet_nil ?_
    rintro _ ⟨⟨w2,hw2⟩,rfl⟩
    clear R1 R2
    have hw3:=hw.trans (hw2.mono hw.size)
    generalize hd:(decide (p=q))=d
    have E:=kH hd;clear hd
    cases d
    ·have E:=neq_of_dec_false E.out
     have E:=kH E
     go_wp2
     go_returns
     refine⟨?_,hw3⟩
     have:x≠y:=by
      rintro rfl
      exact E.out (Option.some.inj (P1.out.symm.trans P2.out))
     simp[this]
    ·have E:=neq_of_dec_true E.out
     have E:=kH E
     go_wp2
     go_roundw
     case rel=>exact⟨k+1,by omega,by go_num,by show _=_;rw[take_snoc' P1.out,take_snoc' P2.out,ht.out,E.out],hw3⟩
     case measure=>simp[intOf];omega
   ·go_wp2
    go_returns
    refine⟨?_,hw⟩
    obtain rfl:k=n:=by omega
    have h1:x=y:=by
     have:=ht.out
     rwa [take_full X1,take_full X2]at this
    simp[h1]
 ·go_enter Tryz.func176,Tryz.ntmps176
  go_wp2
  go_returns
  refine⟨?_,Below.refl _ _⟩
  have h1:x≠y:=by
   rintro rfl
   exact hl (X1.out.trans X2.out.symm)
  simp[h1]
theorem eqPat_c (x y:GPat) (r s:List Value) (lo lo' : Nat) (w:World) (hx:GPat.R lo w r x) (hy:GPat.R lo' w s y) :
  Calls Tryz.prog 158 #[.agg r.toArray,.agg s.toArray] w fun e w'=>e=.returned (.bool (decide (x=y)))/\Below w.heap.size w w':=by
 obtain⟨x0⟩:=x
 obtain⟨y0⟩:=y
 obtain⟨u0,rfl,_,a0⟩:=hx
 obtain⟨v0,rfl,_,b0⟩:=hy
 dsimp only at *
 go_enter Tryz.func158,Tryz.ntmps158
 go_wp2_with (first|(go_at_call 176;((with_reducible refine(eqPNodeS_c x0 y0 u0 v0 lo lo' _ ?_ ?_).mono ?_);exact a0.below GPNode.good (by go_grown);exact b0.below GPNode.good (by go_grown);rintro e w1 ⟨rfl,hb⟩;have hw:Below w.heap.size w w1:=Below.trans (by go_grown) (hb.mono (by go_grown));obtain⟨hc,hf⟩:=bcell hb;have hz:=hw.size;have hz1:=hb.size;have hs0:w.heap.size<w1.heap.size:=(by have h:=hz1;(try simp only[World.size_alloc,World.size_setCell,World.size_drew]at h);omega);have hs1:w.heap.size+1<w1.heap.size:=(by have h:=hz1;(try simp only[World.size_alloc,World.size_setCell,World.size_drew]at h);omega);clear hb)))
 all_goals (go_returns;refine⟨?_,by go_grown⟩;(try clear hc hf);simp_all [toList_eq]<;>grind)
theorem eqPatS_c (x y:List GPat) (u v:Value) (lo lo' : Nat) (w:World) (hx:Sl GPat.R 1 lo w u x) (hy:Sl GPat.R 1 lo' w v y) :
  Calls Tryz.prog 125 #[u,v] w fun e w'=>e=.returned (.bool (decide (x=y)))/\Below w.heap.size w w':=by
 obtain⟨a1,c1,rfl,l1,m1,h1⟩:=hx
 obtain⟨a2,c2,rfl,l2,m2,h2⟩:=hy
 obtain⟨n,hn⟩ : ∃n,n=x.length:=⟨_,rfl⟩
 obtain⟨m,hm⟩ : ∃m,m=y.length:=⟨_,rfl⟩
 rw[<- hn]at l1 ⊢
 rw[<- hm]at l2 ⊢
 have X1:=kH hn;have X2:=kH hm
 clear hn hm
 by_cases hl:n=m
 ·subst hl
  go_enter Tryz.func125,Tryz.ntmps125
  go_wp2_with fail
  go_loopw [5] (fun i wr=>∃k:Nat,k<=n/\i=.int .i64 k/\Hid (x.take k=y.take k)/\Below w.heap.size w wr) (fun i _=>n-(intOf i).toNat)
  case atStart=>exact⟨0,by omega,rfl,rfl,Below.refl _ _⟩
  case round=>
   obtain⟨k,hk,rfl,ht,hw⟩:=hrel
   by_cases hlt:k<n
   ·obtain⟨b1,o1,p,s1,_,rfl,P1,q1,r1⟩:=(h1.below GPat.good hw).get X1 hlt
    obtain⟨b2,o2,q,s2,_,rfl,P2,q2,r2⟩:=(h2.below GPat.good hw).get X2 hlt
    have Q1:=q1;have Q2:=q2
    obtain⟨s0,rfl,_⟩:=q1;obtain⟨t0,rfl,_⟩:=q2
    have R1:∀z:Ext wr,z.val.cell? ⟨b1,o1+k,none⟩=some (s0):=fun z=>(by simpa using (r1.ext z) 0 _ rfl)
    have R2:∀z:Ext wr,z.val.cell? ⟨b2,o2+k,none⟩=some (t0):=fun z=>(by simpa using (r2.ext z) 0 _ rfl)
    clear r1 r2
    go_wp2_with fail
    refine wp_region_ext_lit (by kernel_rfl) (by kernel_rfl) ?_
    repeat (go_big_quiet_step (((go_at_call 158;exact Calls.ext (eqPat_c p q _ _ _ _ _ (GPat.good.below Q1 (Subtype.property _)) (GPat.good.below Q2 (Subtype.property _)))))))
    refine wpQuiet_nil ?_
    rintro _ ⟨⟨w2,hw2⟩,rfl⟩
    clear R1 R2
    have hw3:=hw.trans (hw2.mono hw.size)
    generalize hd:(decide (p=q))=d
    have E:=kH hd;clear hd
    cases d
    ·have E:=neq_of_dec_false E.out
     have E:=kH E
     go_wp2
     go_returns
     refine⟨?_,hw3⟩
     have:x≠y:=by
      rintro rfl
      exact E.out (Option.some.inj (P1.out.symm.trans P2.out))
     simp[this]
    ·have E:=neq_of_dec_true E.out
     have E:=kH E
     go_wp2
     go_roundw
     case rel=>exact⟨k+1,by omega,by go_num,by show _=_;rw[take_snoc' P1.out,take_snoc' P2.out,ht.out,E.out],hw3⟩
     case measure=>simp[intOf];omega
   ·go_wp2
    go_returns
    refine⟨?_,hw⟩
    obtain rfl:k=n:=by omega
    have h1:x=y:=by
     have:=ht.out
     rwa [take_full X1,take_full X2]at this
    simp[h1]
 ·go_enter Tryz.func125,Tryz.ntmps125
  go_wp2
  go_returns
  refine⟨?_,Below.refl _ _⟩
  have h1:x≠y:=by
   rintro rfl
   exact hl (X1.out.trans X2.out.symm)
  simp[h1]
theorem eqTyItem_c (x y:GTyItem) (r s:List Value) (lo lo' : Nat) (w:World) (hx:GTyItem.R lo w r x) (hy:GTyItem.R lo' w s y) :
  Calls Tryz.prog 78 #[.agg r.toArray,.agg s.toArray] w fun e w'=>e=.returned (.bool (decide (x=y)))/\Below w.heap.size w w':=by
 obtain⟨x0,x1,x2⟩:=x
 obtain⟨y0,y1,y2⟩:=y
 obtain⟨rfl,⟨wx0,wx1,wx2⟩⟩:=hx
 obtain⟨rfl,⟨wy0,wy1,wy2⟩⟩:=hy
 dsimp only at *
 go_enter Tryz.func78,Tryz.ntmps78
 go_wp2
 all_goals (go_returns;refine⟨?_,by go_grown⟩;(try clear hc hf);simp_all [toList_eq]<;>grind)
theorem eqTyItemS_c (x y:List GTyItem) (u v:Value) (lo lo' : Nat) (w:World) (hx:Sl GTyItem.R 3 lo w u x) (hy:Sl GTyItem.R 3 lo' w v y) :
  Calls Tryz.prog 33 #[u,v] w fun e w'=>e=.returned (.bool (decide (x=y)))/\Below w.heap.size w w':=by
 obtain⟨a1,c1,rfl,l1,m1,h1⟩:=hx
 obtain⟨a2,c2,rfl,l2,m2,h2⟩:=hy
 obtain⟨n,hn⟩ : ∃n,n=x.length:=⟨_,rfl⟩
 obtain⟨m,hm⟩ : ∃m,m=y.length:=⟨_,rfl⟩
 rw[<- hn]at l1 ⊢
 rw[<- hm]at l2 ⊢
 have X1:=kH hn;have X2:=kH hm
 clear hn hm
 by_cases hl:n=m
 ·subst hl
  go_enter Tryz.func33,Tryz.ntmps33
  go_wp2_with fail
  go_loopw [5] (fun i wr=>∃k:Nat,k<=n/\i=.int .i64 k/\Hid (x.take k=y.take k)/\Below w.heap.size w wr) (fun i _=>n-(intOf i).toNat)
  case atStart=>exact⟨0,by omega,rfl,rfl,Below.refl _ _⟩
  case round=>
   obtain⟨k,hk,rfl,ht,hw⟩:=hrel
   by_cases hlt:k<n
   ·obtain⟨b1,o1,p,s1,_,rfl,P1,q1,r1⟩:=(h1.below GTyItem.good hw).get X1 hlt
    obtain⟨b2,o2,q,s2,_,rfl,P2,q2,r2⟩:=(h2.below GTyItem.good hw).get X2 hlt
    have Q1:=q1;have Q2:=q2
    obtain⟨rfl,_⟩:=q1;obtain⟨rfl,_⟩:=q2
    have R1:∀z:Ext wr,z.val.cell? ⟨b1,o1+k*3,none⟩=some (.int .i64 p.var)/\z.val.cell? ⟨b1,o1+k*3+1,none⟩=some (.string p.name)/\z.val.cell? ⟨b1,o1+k*3+2,none⟩=some (.int .i64 p.arity):=fun z=>⟨by simpa using (r1.ext z) 0 _ rfl,by simpa using (r1.ext z) 1 _ rfl,by simpa using (r1.ext z) 2 _ rfl⟩
    have R2:∀z:Ext wr,z.val.cell? ⟨b2,o2+k*3,none⟩=some (.int .i64 q.var)/\z.val.cell? ⟨b2,o2+k*3+1,none⟩=some (.string q.name)/\z.val.cell? ⟨b2,o2+k*3+2,none⟩=some (.int .i64 q.arity):=fun z=>⟨by simpa using (r2.ext z) 0 _ rfl,by simpa using (r2.ext z) 1 _ rfl,by simpa using (r2.ext z) 2 _ rfl⟩
    clear r1 r2
    go_wp2_with fail
    refine wp_region_ext_lit (by kernel_rfl) (by kernel_rfl) ?_
    repeat (go_big_quiet_step (((go_at_call 78;exact Calls.ext (eqTyItem_c p q _ _ _ _ _ (GTyItem.good.below Q1 (Subtype.property _)) (GTyItem.good.below Q2 (Subtype.property _)))))))
    refine wpQuiet_nil ?_
    rintro _ ⟨⟨w2,hw2⟩,rfl⟩
    clear R1 R2
    have hw3:=hw.trans (hw2.mono hw.size)
    generalize hd:(decide (p=q))=d
    have E:=kH hd;clear hd
    cases d
    ·have E:=neq_of_dec_false E.out
     have E:=kH E
     go_wp2
     go_returns
     refine⟨?_,hw3⟩
     have:x≠y:=by
      rintro rfl
      exact E.out (Option.some.inj (P1.out.symm.trans P2.out))
     simp[this]
    ·have E:=neq_of_dec_true E.out
     have E:=kH E
     go_wp2
     go_roundw
     case rel=>exact⟨k+1,by omega,by go_num,by show _=_;rw[take_snoc' P1.out,take_snoc' P2.out,ht.out,E.out],hw3⟩
     case measure=>simp[intOf];omega
   ·go_wp2
    go_returns
    refine⟨?_,hw⟩
    obtain rfl:k=n:=by omega
    have h1:x=y:=by
     have:=ht.out
     rwa [take_full X1,take_full X2]at this
    simp[h1]
 ·go_enter Tryz.func33,Tryz.ntmps33
  go_wp2
  go_returns
  refine⟨?_,Below.refl _ _⟩
  have h1:x≠y:=by
   rintro rfl
   exact hl (X1.out.trans X2.out.symm)
  simp[h1]
theorem eqTy_c (x y:GTy) (r s:List Value) (lo lo' : Nat) (w:World) (hx:GTy.R lo w r x) (hy:GTy.R lo' w s y) :
  Calls Tryz.prog 10 #[.agg r.toArray,.agg s.toArray] w fun e w'=>e=.returned (.bool (decide (x=y)))/\Below w.heap.size w w':=by
 obtain⟨x0⟩:=x
 obtain⟨y0⟩:=y
 obtain⟨u0,rfl,_,a0⟩:=hx
 obtain⟨v0,rfl,_,b0⟩:=hy
 dsimp only at *
 go_enter Tryz.func10,Tryz.ntmps10
 go_wp2_with (first|(go_at_call 33;((with_reducible refine(eqTyItemS_c x0 y0 u0 v0 lo lo' _ ?_ ?_).mono ?_);exact a0.below GTyItem.good (by go_grown);exact b0.below GTyItem.good (by go_grown);rintro e w1 ⟨rfl,hb⟩;have hw:Below w.heap.size w w1:=Below.trans (by go_grown) (hb.mono (by go_grown));obtain⟨hc,hf⟩:=bcell hb;have hz:=hw.size;have hz1:=hb.size;have hs0:w.heap.size<w1.heap.size:=(by have h:=hz1;(try simp only[World.size_alloc,World.size_setCell,World.size_drew]at h);omega);have hs1:w.heap.size+1<w1.heap.size:=(by have h:=hz1;(try simp only[World.size_alloc,World.size_setCell,World.size_drew]at h);omega);clear hb)))
 all_goals (go_returns;refine⟨?_,by go_grown⟩;(try clear hc hf);simp_all [toList_eq]<;>grind)
theorem eqCon_c (x y:GCon) (r s:List Value) (lo lo' : Nat) (w:World) (hx:GCon.R lo w r x) (hy:GCon.R lo' w s y) :
  Calls Tryz.prog 157 #[.agg r.toArray,.agg s.toArray] w fun e w'=>e=.returned (.bool (decide (x=y)))/\Below w.heap.size w w':=by
 obtain⟨x0,x1,⟨x2⟩⟩:=x
 obtain⟨y0,y1,⟨y2⟩⟩:=y
 obtain⟨u0,rfl,wx0,a0⟩:=hx
 obtain⟨v0,rfl,wy0,b0⟩:=hy
 dsimp only at *
 go_enter Tryz.func157,Tryz.ntmps157
 go_wp2_with (first|(go_at_call 10;((with_reducible refine(eqTy_c (⟨x2⟩ : GTy) (⟨y2⟩ : GTy) _ _ lo lo' _ ?_ ?_).mono ?_);exact⟨u0,rfl,trivial,(a0.below GTyItem.good (by go_grown))⟩;exact⟨v0,rfl,trivial,(b0.below GTyItem.good (by go_grown))⟩;rintro e w1 ⟨rfl,hb⟩;have hw:Below w.heap.size w w1:=Below.trans (by go_grown) (hb.mono (by go_grown));obtain⟨hc,hf⟩:=bcell hb;have hz:=hw.size;have hz1:=hb.size;have hs0:w.heap.size<w1.heap.size:=(by have h:=hz1;(try simp only[World.size_alloc,World.size_setCell,World.size_drew]at h);omega);have hs1:w.heap.size+1<w1.heap.size:=(by have h:=hz1;(try simp only[World.size_alloc,World.size_setCell,World.size_drew]at h);omega);clear hb)))
 all_goals (go_returns;refine⟨?_,by go_grown⟩;(try clear hc hf);simp_all [toList_eq]<;>grind)
theorem eqConS_c (x y:List GCon) (u v:Value) (lo lo' : Nat) (w:World) (hx:Sl GCon.R 3 lo w u x) (hy:Sl GCon.R 3 lo' w v y) :
  Calls Tryz.prog 123 #[u,v] w fun e w'=>e=.returned (.bool (decide (x=y)))/\Below w.heap.size w w':=by
 obtain⟨a1,c1,rfl,l1,m1,h1⟩:=hx
 obtain⟨a2,c2,rfl,l2,m2,h2⟩:=hy
 obtain⟨n,hn⟩ : ∃n,n=x.length:=⟨_,rfl⟩
 obtain⟨m,hm⟩ : ∃m,m=y.length:=⟨_,rfl⟩
 rw[<- hn]at l1 ⊢
 rw[<- hm]at l2 ⊢
 have X1:=kH hn;have X2:=kH hm
 clear hn hm
 by_cases hl:n=m
 ·subst hl
  go_enter Tryz.func123,Tryz.ntmps123
  go_wp2_with fail
  go_loopw [5] (fun i wr=>∃k:Nat,k<=n/\i=.int .i64 k/\Hid (x.take k=y.take k)/\Below w.heap.size w wr) (fun i _=>n-(intOf i).toNat)
  case atStart=>exact⟨0,by omega,rfl,rfl,Below.refl _ _⟩
  case round=>
   obtain⟨k,hk,rfl,ht,hw⟩:=hrel
   by_cases hlt:k<n
   ·obtain⟨b1,o1,p,s1,_,rfl,P1,q1,r1⟩:=(h1.below GCon.good hw).get X1 hlt
    obtain⟨b2,o2,q,s2,_,rfl,P2,q2,r2⟩:=(h2.below GCon.good hw).get X2 hlt
    have Q1:=q1;have Q2:=q2
    obtain⟨s0,rfl,_⟩:=q1;obtain⟨t0,rfl,_⟩:=q2
    have R1:∀z:Ext wr,z.val.cell? ⟨b1,o1+k*3,none⟩=some (.string p.name)/\z.val.cell? ⟨b1,o1+k*3+1,none⟩=some (.bool p.has)/\z.val.cell? ⟨b1,o1+k*3+2,none⟩=some (s0):=fun z=>⟨by simpa using (r1.ext z) 0 _ rfl,by simpa using (r1.ext z) 1 _ rfl,by simpa using (r1.ext z) 2 _ rfl⟩
    have R2:∀z:Ext wr,z.val.cell? ⟨b2,o2+k*3,none⟩=some (.string q.name)/\z.val.cell? ⟨b2,o2+k*3+1,none⟩=some (.bool q.has)/\z.val.cell? ⟨b2,o2+k*3+2,none⟩=some (t0):=fun z=>⟨by simpa using (r2.ext z) 0 _ rfl,by simpa using (r2.ext z) 1 _ rfl,by simpa using (r2.ext z) 2 _ rfl⟩
    clear r1 r2
    go_wp2_with fail
    refine wp_region_ext_lit (by kernel_rfl) (by kernel_rfl) ?_
    repeat (go_big_quiet_step (((go_at_call 157;exact Calls.ext (eqCon_c p q _ _ _ _ _ (GCon.good.below Q1 (Subtype.property _)) (GCon.good.below Q2 (Subtype.property _)))))))
    refine wpQuiet_nil ?_
    rintro _ ⟨⟨w2,hw2⟩,rfl⟩
    clear R1 R2
    have hw3:=hw.trans (hw2.mono hw.size)
    generalize hd:(decide (p=q))=d
    have E:=kH hd;clear hd
    cases d
    ·have E:=neq_of_dec_false E.out
     have E:=kH E
     go_wp2
     go_returns
     refine⟨?_,hw3⟩
     have:x≠y:=by
      rintro rfl
      exact E.out (Option.some.inj (P1.out.symm.trans P2.out))
     simp[this]
    ·have E:=neq_of_dec_true E.out
     have E:=kH E
     go_wp2
     go_roundw
     case rel=>exact⟨k+1,by omega,by go_num,by show _=_;rw[take_snoc' P1.out,take_snoc' P2.out,ht.out,E.out],hw3⟩
     case measure=>simp[intOf];omega
   ·go_wp2
    go_returns
    refine⟨?_,hw⟩
    obtain rfl:k=n:=by omega
    have h1:x=y:=by
     have:=ht.out
     rwa [take_full X1,take_full X2]at this
    simp[h1]
 ·go_enter Tryz.func123,Tryz.ntmps123
  go_wp2
  go_returns
  refine⟨?_,Below.refl _ _⟩
  have h1:x≠y:=by
   rintro rfl
   exact hl (X1.out.trans X2.out.symm)
  simp[h1]
theorem eqType_c (x y:GType) (r s:List Value) (lo lo' : Nat) (w:World) (hx:GType.R lo w r x) (hy:GType.R lo' w s y) :
  Calls Tryz.prog 79 #[.agg r.toArray,.agg s.toArray] w fun e w'=>e=.returned (.bool (decide (x=y)))/\Below w.heap.size w w':=by
 obtain⟨x0,x1,x2⟩:=x
 obtain⟨y0,y1,y2⟩:=y
 obtain⟨u0,rfl,⟨wx0,wx1⟩,a0⟩:=hx
 obtain⟨v0,rfl,⟨wy0,wy1⟩,b0⟩:=hy
 dsimp only at *
 go_enter Tryz.func79,Tryz.ntmps79
 go_wp2_with (first|(go_at_call 123;((with_reducible refine(eqConS_c x2 y2 u0 v0 lo lo' _ ?_ ?_).mono ?_);exact a0.below GCon.good (by go_grown);exact b0.below GCon.good (by go_grown);rintro e w1 ⟨rfl,hb⟩;have hw:Below w.heap.size w w1:=Below.trans (by go_grown) (hb.mono (by go_grown));obtain⟨hc,hf⟩:=bcell hb;have hz:=hw.size;have hz1:=hb.size;have hs0:w.heap.size<w1.heap.size:=(by have h:=hz1;(try simp only[World.size_alloc,World.size_setCell,World.size_drew]at h);omega);have hs1:w.heap.size+1<w1.heap.size:=(by have h:=hz1;(try simp only[World.size_alloc,World.size_setCell,World.size_drew]at h);omega);clear hb)))
 all_goals (go_returns;refine⟨?_,by go_grown⟩;(try clear hc hf);simp_all [toList_eq]<;>grind)
theorem eqTypeS_c (x y:List GType) (u v:Value) (lo lo' : Nat) (w:World) (hx:Sl GType.R 3 lo w u x) (hy:Sl GType.R 3 lo' w v y) :
  Calls Tryz.prog 34 #[u,v] w fun e w'=>e=.returned (.bool (decide (x=y)))/\Below w.heap.size w w':=by
 obtain⟨a1,c1,rfl,l1,m1,h1⟩:=hx
 obtain⟨a2,c2,rfl,l2,m2,h2⟩:=hy
 obtain⟨n,hn⟩ : ∃n,n=x.length:=⟨_,rfl⟩
 obtain⟨m,hm⟩ : ∃m,m=y.length:=⟨_,rfl⟩
 rw[<- hn]at l1 ⊢
 rw[<- hm]at l2 ⊢
 have X1:=kH hn;have X2:=kH hm
 clear hn hm
 by_cases hl:n=m
 ·subst hl
  go_enter Tryz.func34,Tryz.ntmps34
  go_wp2_with fail
  go_loopw [5] (fun i wr=>∃k:Nat,k<=n/\i=.int .i64 k/\Hid (x.take k=y.take k)/\Below w.heap.size w wr) (fun i _=>n-(intOf i).toNat)
  case atStart=>exact⟨0,by omega,rfl,rfl,Below.refl _ _⟩
  case round=>
   obtain⟨k,hk,rfl,ht,hw⟩:=hrel
   by_cases hlt:k<n
   ·obtain⟨b1,o1,p,s1,_,rfl,P1,q1,r1⟩:=(h1.below GType.good hw).get X1 hlt
    obtain⟨b2,o2,q,s2,_,rfl,P2,q2,r2⟩:=(h2.below GType.good hw).get X2 hlt
    have Q1:=q1;have Q2:=q2
    obtain⟨s0,rfl,_⟩:=q1;obtain⟨t0,rfl,_⟩:=q2
    have R1:∀z:Ext wr,z.val.cell? ⟨b1,o1+k*3,none⟩=some (.string p.name)/\z.val.cell? ⟨b1,o1+k*3+1,none⟩=some (.int .i64 p.params)/\z.val.cell? ⟨b1,o1+k*3+2,none⟩=some (s0):=fun z=>⟨by simpa using (r1.ext z) 0 _ rfl,by simpa using (r1.ext z) 1 _ rfl,by simpa using (r1.ext z) 2 _ rfl⟩
    have R2:∀z:Ext wr,z.val.cell? ⟨b2,o2+k*3,none⟩=some (.string q.name)/\z.val.cell? ⟨b2,o2+k*3+1,none⟩=some (.int .i64 q.params)/\z.val.cell? ⟨b2,o2+k*3+2,none⟩=some (t0):=fun z=>⟨by simpa using (r2.ext z) 0 _ rfl,by simpa using (r2.ext z) 1 _ rfl,by simpa using (r2.ext z) 2 _ rfl⟩
    clear r1 r2
    go_wp2_with fail
    refine wp_region_ext_lit (by kernel_rfl) (by kernel_rfl) ?_
    repeat (go_big_quiet_step (((go_at_call 79;exact Calls.ext (eqType_c p q _ _ _ _ _ (GType.good.below Q1 (Subtype.property _)) (GType.good.below Q2 (Subtype.property _)))))))
    refine wpQuiet_nil ?_
    rintro _ ⟨⟨w2,hw2⟩,rfl⟩
    clear R1 R2
    have hw3:=hw.trans (hw2.mono hw.size)
    generalize hd:(decide (p=q))=d
    have E:=kH hd;clear hd
    cases d
    ·have E:=neq_of_dec_false E.out
     have E:=kH E
     go_wp2
     go_returns
     refine⟨?_,hw3⟩
     have:x≠y:=by
      rintro rfl
      exact E.out (Option.some.inj (P1.out.symm.trans P2.out))
     simp[this]
    ·have E:=neq_of_dec_true E.out
     have E:=kH E
     go_wp2
     go_roundw
     case rel=>exact⟨k+1,by omega,by go_num,by show _=_;rw[take_snoc' P1.out,take_snoc' P2.out,ht.out,E.out],hw3⟩
     case measure=>simp[intOf];omega
   ·go_wp2
    go_returns
    refine⟨?_,hw⟩
    obtain rfl:k=n:=by omega
    have h1:x=y:=by
     have:=ht.out
     rwa [take_full X1,take_full X2]at this
    simp[h1]
 ·go_enter Tryz.func34,Tryz.ntmps34
  go_wp2
  go_returns
  refine⟨?_,Below.refl _ _⟩
  have h1:x≠y:=by
   rintro rfl
   exact hl (X1.out.trans X2.out.symm)
  simp[h1]
theorem eqNode_c (x y:GNode) (r s:List Value) (lo lo' : Nat) (w:World) (hx:GNode.R lo w r x) (hy:GNode.R lo' w s y) :
  Calls Tryz.prog 80 #[.agg r.toArray,.agg s.toArray] w fun e w'=>e=.returned (.bool (decide (x=y)))/\Below w.heap.size w w':=by
 obtain⟨x0,x1,x2,x3,x4,x5⟩:=x
 obtain⟨y0,y1,y2,y3,y4,y5⟩:=y
 obtain⟨u0,u1,rfl,⟨wx0,wx1,wx2,wx3⟩,a0,a1⟩:=hx
 obtain⟨v0,v1,rfl,⟨wy0,wy1,wy2,wy3⟩,b0,b1⟩:=hy
 dsimp only at *
 go_enter Tryz.func80,Tryz.ntmps80
 go_wp2_with (first|(go_at_call 124;((with_reducible refine(eqIntS_c x4 y4 u0 v0 lo lo' _ ?_ ?_).mono ?_);exact a0.below IntR.good (by go_grown);exact b0.below IntR.good (by go_grown);rintro e w1 ⟨rfl,hb⟩;have hw:Below w.heap.size w w1:=Below.trans (by go_grown) (hb.mono (by go_grown));obtain⟨hc,hf⟩:=bcell hb;have hz:=hw.size;have hz1:=hb.size;have hs0:w.heap.size<w1.heap.size:=(by have h:=hz1;(try simp only[World.size_alloc,World.size_setCell,World.size_drew]at h);omega);have hs1:w.heap.size+1<w1.heap.size:=(by have h:=hz1;(try simp only[World.size_alloc,World.size_setCell,World.size_drew]at h);omega);clear hb))|(go_at_call 125;((with_reducible refine(eqPatS_c x5 y5 u1 v1 lo lo' _ ?_ ?_).mono ?_);exact a1.below GPat.good (by go_grown);exact b1.below GPat.good (by go_grown);rintro e w1 ⟨rfl,hb⟩;have hw:Below w.heap.size w w1:=Below.trans (by go_grown) (hb.mono (by go_grown));obtain⟨hc,hf⟩:=bcell hb;have hz:=hw.size;have hz1:=hb.size;have hs0:w.heap.size<w1.heap.size:=(by have h:=hz1;(try simp only[World.size_alloc,World.size_setCell,World.size_drew]at h);omega);have hs1:w.heap.size+1<w1.heap.size:=(by have h:=hz1;(try simp only[World.size_alloc,World.size_setCell,World.size_drew]at h);omega);clear hb)))
 all_goals (go_returns;refine⟨?_,by go_grown⟩;(try clear hc hf);simp_all [toList_eq]<;>grind)
theorem eqNodeS_c (x y:List GNode) (u v:Value) (lo lo' : Nat) (w:World) (hx:Sl GNode.R 6 lo w u x) (hy:Sl GNode.R 6 lo' w v y) :
  Calls Tryz.prog 35 #[u,v] w fun e w'=>e=.returned (.bool (decide (x=y)))/\Below w.heap.size w w':=by
 obtain⟨a1,c1,rfl,l1,m1,h1⟩:=hx
 obtain⟨a2,c2,rfl,l2,m2,h2⟩:=hy
 obtain⟨n,hn⟩ : ∃n,n=x.length:=⟨_,rfl⟩
 obtain⟨m,hm⟩ : ∃m,m=y.length:=⟨_,rfl⟩
 rw[<- hn]at l1 ⊢
 rw[<- hm]at l2 ⊢
 have X1:=kH hn;have X2:=kH hm
 clear hn hm
 by_cases hl:n=m
 ·subst hl
  go_enter Tryz.func35,Tryz.ntmps35
  go_wp2_with fail
  go_loopw [5] (fun i wr=>∃k:Nat,k<=n/\i=.int .i64 k/\Hid (x.take k=y.take k)/\Below w.heap.size w wr) (fun i _=>n-(intOf i).toNat)
  case atStart=>exact⟨0,by omega,rfl,rfl,Below.refl _ _⟩
  case round=>
   obtain⟨k,hk,rfl,ht,hw⟩:=hrel
   by_cases hlt:k<n
   ·obtain⟨b1,o1,p,s1,_,rfl,P1,q1,r1⟩:=(h1.below GNode.good hw).get X1 hlt
    obtain⟨b2,o2,q,s2,_,rfl,P2,q2,r2⟩:=(h2.below GNode.good hw).get X2 hlt
    have Q1:=q1;have Q2:=q2
    obtain⟨s0,s1,rfl,_⟩:=q1;obtain⟨t0,t1,rfl,_⟩:=q2
    have R1:∀z:Ext wr,z.val.cell? ⟨b1,o1+k*6,none⟩=some (.int .i64 p.kind)/\z.val.cell? ⟨b1,o1+k*6+1,none⟩=some (.int .i64 p.at_)/\z.val.cell? ⟨b1,o1+k*6+2,none⟩=some (.int .i64 p.n)/\z.val.cell? ⟨b1,o1+k*6+3,none⟩=some (.string p.s)/\z.val.cell? ⟨b1,o1+k*6+4,none⟩=some (s0)/\z.val.cell? ⟨b1,o1+k*6+5,none⟩=some (s1):=fun z=>⟨by simpa using (r1.ext z) 0 _ rfl,by simpa using (r1.ext z) 1 _ rfl,by simpa using (r1.ext z) 2 _ rfl,by simpa using (r1.ext z) 3 _ rfl,by simpa using (r1.ext z) 4 _ rfl,by simpa using (r1.ext z) 5 _ rfl⟩
    have R2:∀z:Ext wr,z.val.cell? ⟨b2,o2+k*6,none⟩=some (.int .i64 q.kind)/\z.val.cell? ⟨b2,o2+k*6+1,none⟩=some (.int .i64 q.at_)/\z.val.cell? ⟨b2,o2+k*6+2,none⟩=some (.int .i64 q.n)/\z.val.cell? ⟨b2,o2+k*6+3,none⟩=some (.string q.s)/\z.val.cell? ⟨b2,o2+k*6+4,none⟩=some (t0)/\z.val.cell? ⟨b2,o2+k*6+5,none⟩=some (t1):=fun z=>⟨by simpa using (r2.ext z) 0 _ rfl,by simpa using (r2.ext z) 1 _ rfl,by simpa using (r2.ext z) 2 _ rfl,by simpa using (r2.ext z) 3 _ rfl,by simpa using (r2.ext z) 4 _ rfl,by simpa using (r2.ext z) 5 _ rfl⟩
    clear r1 r2
    go_wp2_with fail
    refine wp_region_ext_lit (by kernel_rfl) (by kernel_rfl) ?_
    repeat (go_big_quiet_step (((go_at_call 80;exact Calls.ext (eqNode_c p q _ _ _ _ _ (GNode.good.below Q1 (Subtype.property _)) (GNode.good.below Q2 (Subtype.property _)))))))
    refine wpQuiet_nil ?_
    rintro _ ⟨⟨w2,hw2⟩,rfl⟩
    clear R1 R2
    have hw3:=hw.trans (hw2.mono hw.size)
    generalize hd:(decide (p=q))=d
    have E:=kH hd;clear hd
    cases d
    ·have E:=neq_of_dec_false E.out
     have E:=kH E
     go_wp2
     go_returns
     refine⟨?_,hw3⟩
     have:x≠y:=by
      rintro rfl
      exact E.out (Option.some.inj (P1.out.symm.trans P2.out))
     simp[this]
    ·have E:=neq_of_dec_true E.out
     have E:=kH E
     go_wp2
     go_roundw
     case rel=>exact⟨k+1,by omega,by go_num,by show _=_;rw[take_snoc' P1.out,take_snoc' P2.out,ht.out,E.out],hw3⟩
     case measure=>simp[intOf];omega
   ·go_wp2
    go_returns
    refine⟨?_,hw⟩
    obtain rfl:k=n:=by omega
    have h1:x=y:=by
     have:=ht.out
     rwa [take_full X1,take_full X2]at this
    simp[h1]
 ·go_enter Tryz.func35,Tryz.ntmps35
  go_wp2
  go_returns
  refine⟨?_,Below.refl _ _⟩
  have h1:x≠y:=by
   rintro rfl
   exact hl (X1.out.trans X2.out.symm)
  simp[h1]
theorem eqProgram_c (x y:GProgram) (r s:List Value) (lo lo' : Nat) (w:World) (hx:GProgram.R lo w r x) (hy:GProgram.R lo' w s y) :
  Calls Tryz.prog 11 #[.agg r.toArray,.agg s.toArray] w fun e w'=>e=.returned (.bool (decide (x=y)))/\Below w.heap.size w w':=by
 obtain⟨x0,x1⟩:=x
 obtain⟨y0,y1⟩:=y
 obtain⟨u0,u1,rfl,_,a0,a1⟩:=hx
 obtain⟨v0,v1,rfl,_,b0,b1⟩:=hy
 dsimp only at *
 go_enter Tryz.func11,Tryz.ntmps11
 go_wp2_with (first|(go_at_call 34;((with_reducible refine(eqTypeS_c x0 y0 u0 v0 lo lo' _ ?_ ?_).mono ?_);exact a0.below GType.good (by go_grown);exact b0.below GType.good (by go_grown);rintro e w1 ⟨rfl,hb⟩;have hw:Below w.heap.size w w1:=Below.trans (by go_grown) (hb.mono (by go_grown));obtain⟨hc,hf⟩:=bcell hb;have hz:=hw.size;have hz1:=hb.size;have hs0:w.heap.size<w1.heap.size:=(by have h:=hz1;(try simp only[World.size_alloc,World.size_setCell,World.size_drew]at h);omega);have hs1:w.heap.size+1<w1.heap.size:=(by have h:=hz1;(try simp only[World.size_alloc,World.size_setCell,World.size_drew]at h);omega);clear hb))|(go_at_call 35;((with_reducible refine(eqNodeS_c x1 y1 u1 v1 lo lo' _ ?_ ?_).mono ?_);exact a1.below GNode.good (by go_grown);exact b1.below GNode.good (by go_grown);rintro e w1 ⟨rfl,hb⟩;have hw:Below w.heap.size w w1:=Below.trans (by go_grown) (hb.mono (by go_grown));obtain⟨hc,hf⟩:=bcell hb;have hz:=hw.size;have hz1:=hb.size;have hs0:w.heap.size<w1.heap.size:=(by have h:=hz1;(try simp only[World.size_alloc,World.size_setCell,World.size_drew]at h);omega);have hs1:w.heap.size+1<w1.heap.size:=(by have h:=hz1;(try simp only[World.size_alloc,World.size_setCell,World.size_drew]at h);omega);clear hb)))
 all_goals (go_returns;refine⟨?_,by go_grown⟩;(try clear hc hf);simp_all [toList_eq]<;>grind)
theorem conv_digit (w:World) (k:Nat):(convert 197 9 (Value.slice (some ⟨w.heap.size,0,none⟩) 1 1)).run Tryz.prog (w.alloc (.cells #[.int .u8 (48+(k:Int) % 10)] 5))=.ok (.string ⟨#[dig k]⟩) (w.alloc (.cells #[.int .u8 (48+(k:Int) % 10)] 5)):=by
 refine run_convert_bytes_back (P:=Tryz.prog) _ 197 9 5 ⟨w.heap.size,0,none⟩ 1 [dig k] Tryz.underlying197 Tryz.underlying5 Tryz.underlying9 (fun j hj=>?_)
 obtain rfl:j=0:=by simp at hj;exact hj
 have h:(dig k).toNat=48+k % 10:=by unfold dig;rw[UInt8.toNat_ofNat'];exact Nat.mod_eq_of_lt (by omega)
 simp[go_sem,Addr.add,h]
theorem markText_c (k0:Nat) (hk0:k0<=4611686018427387904) (w:World) :
  Calls Tryz.prog 82 #[.int .i64 k0] w fun e w'=>e=.returned (.string (markT k0))/\Below w.heap.size w w':=by
 by_cases h0:k0=0
 ·subst h0
  go_enter Tryz.func82,Tryz.ntmps82
  go_wp2
  go_returns
  exact⟨rfl,by go_grown⟩
 ·have h1:0<k0:=by omega
  have h2 : ¬ ((k0:Int)<=0):=by omega
  go_enter Tryz.func82,Tryz.ntmps82
  go_wp2_with fail
  go_loopw [0,3] (fun m o wr=>∃ (k:Nat) (s:ByteArray),m=.int .i64 k/\o=.string s/\Hid (digs k s=digs k0 ⟨#[]⟩)/\s.size+k<=k0/\Below w.heap.size w wr) (fun m _ _=>(intOf m).toNat)
  case atStart=>exact⟨k0,⟨#[]⟩,rfl,rfl,rfl,by show 0+k0<=k0;omega,by go_grown⟩
  case round=>
   obtain⟨k,s,rfl,rfl,hd,hs,hw⟩:=hrel
   have hz:=hw.size
   by_cases hlt:k=0
   ·replace hd:s=digs k0 ⟨#[]⟩:=by rw[Hid,hlt,digs_zero]at hd;exact hd
    replace hd:=kH hd
    have h5:(k:Int)=0:=by omega
    rw[h5]
    clear h5
    clear hlt
    generalize hj:digs k0 ⟨#[]⟩=dk at *
    replace hj:=kH hj
    have h4:1+s.size<=9223372036854775807:=by omega
    go_wp2_with fail
    go_returns
    exact⟨by have a:=hj.out;have b:=hd.out;subst b;subst a;simp[markT,h0],hw⟩
   ·have h3:0<k:=by omega
    have h4:s.size+1<=9223372036854775807:=by omega
    have hrun:=conv_digit wr k
    set_option maxRecDepth 10000 in go_wp2_with fail
    go_roundw
    case rel=>exact⟨k / 10,_,by go_num,rfl,by rw[Hid,<- hd,digs_pos hlt],by rw[ByteArray.size_append];show 1+s.size+k / 10<=k0;omega,by go_grown⟩
    case measure=>simp[intOf];omega
end Go.Proofs.YtkikkfjmggobpaaGreat
namespace Go.Proofs.YtkikkfjmggobpaaGreat
open Go.RowKit
set_option linter.unusedVariables false
set_option linter.unusedSimpArgs false
/-! ### Marks of rows -/
theorem markText_z (n:Nat) (z:Int) (hz:z=n) (hn:n<=4611686018427387904) (w:World) :
  Calls Tryz.prog 82 #[.int .i64 z] w fun e w'=>e=.returned (.string (markT n))/\Below w.heap.size w w':=by subst hz;exact markText_c n hn w
end Go.Proofs.YtkikkfjmggobpaaGreat
namespace Go.Proofs.YtkikkfjmggobpaaGreat
open Go.RowKit
set_option maxRecDepth 100000
set_option maxHeartbeats 16000000
set_option linter.unusedVariables false
set_option linter.unusedSimpArgs false
attribute [local go_sem] Ext.cell
theorem digs_size (n:Nat):∀s:ByteArray,(digs n s).size<=n+s.size:=by
 induction n using Nat.strongRecOn with
 |_ n ih=>
  intro s
  by_cases h:n=0
  ·subst h;rw[digs_zero];omega
  ·rw[digs_pos h]
   have h1:=ih (n / 10) (by omega) (⟨#[dig n]⟩ ++ s)
   have h2:((⟨#[dig n]⟩ : ByteArray)++s).size=1+s.size:=by rw[ByteArray.size_append];rfl
   omega
theorem markT_ok {n:Nat} (h:n<=4611686018427387904):StrOk (markT n):=by
 unfold StrOk markT
 split
 ·decide
 ·have h1:=digs_size n ⟨#[]⟩
  have h2:(⟨#[]⟩ : ByteArray).size=0:=rfl
  rw[ByteArray.size_append]
  have h3:(⟨#[109]⟩ : ByteArray).size=1:=rfl
  omega
def cntInt (_:Int):Nat:=1
def mkInt (k:Nat) (_:Int):Int:=(k:Int)
theorem markIntS_c (v:Value) (bs:List Nat) (k lo:Nat) (z:Int) (hz:z=(k:Int)) (xs:List Int) (w:World) (S:SlO 3 1 (FlatO intRow I64) bs w v xs) (hnd:bs.Nodup) (hlo:∀b∈bs,lo<=b) (hlw:lo<=w.heap.size) (hkn:k+cntL cntInt xs<=4611686018427387904) (hln:xs.length<=4611686018427387904) :
  Calls Tryz.prog 84 #[v,.int .i64 z] w fun e w'=>e=.returned (.int .i64 ((k+cntL cntInt xs:Nat):Int))/\SlO 3 1 (FlatO intRow I64) bs w' v (markL mkInt cntInt k xs)/\Kept (·∈bs) w w'/\Below lo w w':=by
 subst hz
 obtain⟨a,c,rfl⟩:=S.form
 obtain⟨n,hn⟩ : ∃n,n=xs.length:=⟨_,rfl⟩
 rw[<- hn]at S hln ⊢
 replace hn:=kH hn;replace S:=kH S;replace hnd:=kH hnd;replace hlo:=kH hlo;replace hkn:=kH hkn
 go_enter Tryz.func84,Tryz.ntmps84
 go_wp2_with fail
 go_loopw [1,5] (fun kk i wr=>∃m j:Nat,j<=n/\Hid (m=k+cntL cntInt (xs.take j))/\kk=.int .i64 m/\i=.int .i64 j/\Hid (SlO 3 1 (FlatO intRow I64) bs wr (.slice a n c) (markN mkInt cntInt k xs j))/\Below lo w wr/\Hid (Kept (·∈bs) w wr)) (fun _ i _=>n-(intOf i).toNat)
 case atStart=>exact⟨k,0,by omega,by show _=_;simp[cntL],rfl,rfl,by show SlO _ _ _ _ _ _ _;rw[markN_zero];exact S.out,Below.refl _ _,Kept.refl _ _⟩
 case round=>
  clear S
  obtain⟨m,j,hj,hm,rfl,rfl,S,hw0,hK0⟩:=hrel
  have hz0:=hw0.size
  by_cases hlt:j<n
  ·obtain⟨x,hx⟩ : ∃x,xs[j]? = some x:=⟨_,List.getElem?_eq_getElem (by have:=hn.out;omega)⟩
   have hks:=cntL_take (cnt:=cntInt) hx
   have hle:=cntL_le cntInt xs (j+1)
   have hmx:m+cntInt x<=4611686018427387904:=by have:=hkn.out;have:=hm.out;omega
   have hS:=S.out
   clear S
   rcases hS with⟨he,_⟩|⟨ps,⟨rows,hown,hrows⟩,hbs⟩
   ·exfalso
    have:=markN_length (mk:=mkInt) (cnt:=cntInt) k xs j
    rw[he]at this
    have:=hn.out
    simp at *
    omega
   rw[markN_length,<- hn.out]at hown
   obtain⟨g,cap,hv,-⟩:=own_cells hown (by omega)
   obtain⟨rfl,rfl⟩ : a=some ⟨g,0,none⟩/\c=cap:=by injection hv with e1 e2 e3;exact⟨e1,e3⟩
   clear hv
   obtain⟨p,r,hp,hr,hrl,ho⟩:=hrows.at (markN_get hx)
   have M0:=MidO.start hown hrows.wide (by rw[hrows.lr,markN_length,<- hn.out]) hr
   have hnd2:=hnd.out
   rw[hbs,fpO_slice,List.nodup_cons]at hnd2
   have hgp:g ∉ p:=fun h=>hnd2.1 (List.mem_flatten.2 ⟨p,List.mem_of_getElem? hp,h⟩)
   have hpb:∀b∈p,b∈bs:=fun b hb=>by rw[hbs,fpO_slice];exact List.mem_cons_of_mem _ (List.mem_flatten.2 ⟨p,List.mem_of_getElem? hp,hb⟩)
   have hgb:g∈bs:=by rw[hbs,fpO_slice];exact List.mem_cons_self
   have hlog:lo<=g:=hlo.out g hgb
   have hgw:=M0.lt
   obtain⟨rfl,rfl,hwf⟩:=ho
   unfold cntInt at hmx
   obtain⟨e0,f0⟩:=M0.cell (off:=j) (t:=0) (by omega) rfl
   clear hown
   replace hrows:=kH hrows;replace hbs:=kH hbs;replace hp:=kH hp;replace hx:=kH hx;replace hks:=kH hks;replace hle:=kH hle;replace M0:=kH M0;replace hr:=kH hr;replace hrl:=kH hrl;replace hwf:=kH hwf;replace hnd2:=kH hnd2;replace hpb:=kH hpb;replace hgp:=kH hgp;replace hgb:=kH hgb
   go_wp2_with fail
   have KG:=(Kept.refl (fun b=>b=g) wr).set (p:=⟨g,j,none⟩) rfl (.int .i64 (m:Int))
   have MF:=M0.out.set (off:=j) (t:=0) (by omega) (by omega) (.int .i64 (m:Int))
   have BF:=hw0.setCell (p:=⟨g,j,none⟩) (by dsimp only;omega) (.int .i64 (m:Int))
   go_roundw
   case rel=>exact⟨m+1,j+1,by omega,by show _=_;rw[hks.out,hm.out];rfl,by go_num,by go_num,.inr ⟨ps,(GrowO.mark (flatO_ok flatInt) (k:=k) rfl hrows.out hx.out hp.out (hbs.out ▸ hnd.out) (r:=[.int .i64 (m:Int)]) rfl hn.out MF.own ⟨rfl,by rw[<- hm.out];rfl,by unfold mkInt I64;rw[<- hm.out];omega⟩ (kept_imp KG fun q h=>.inl h)),hbs.out⟩,BF,hK0.out.trans hz0 (kept_imp KG fun q h=>by subst h;exact hgb.out)⟩
   case measure=>simp[intOf];omega
  ·obtain rfl:j=n:=by omega
   have e1:=hn.out
   have h2:=S.out
   have h3:=hm.out
   rw[List.take_of_length_le (by omega)]at h3
   rw[e1,markN_all,<- e1]at h2
   replace h2:=kH h2;replace h3:=kH h3
   clear e1
   go_wp2
   go_returns
   exact⟨by rw[<- h3.out];rfl,h2.out,hK0.out,hw0⟩
end Go.Proofs.YtkikkfjmggobpaaGreat
