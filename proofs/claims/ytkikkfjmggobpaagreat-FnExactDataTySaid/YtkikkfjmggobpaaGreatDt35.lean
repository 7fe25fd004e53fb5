/- Parts of the proof, merged: FtType, FtNode, FtProgram, FoDNode, FoData, FtDNode, FtData. -/
import Derived.OwnWalk
import Derived.Test.YtkikkfjmggobpaaGreatDt34
namespace Go.Proofs.YtkikkfjmggobpaaGreat
open Go.RowKit
set_option maxRecDepth 100000
set_option maxHeartbeats 16000000
set_option linter.unusedVariables false
set_option linter.unusedSimpArgs false
attribute [local go_sem] Ext.cell
theorem toType_o (x:GType) (r:List Value) (lo:Nat) (hl:x.bulk<=1048576) (w:World) (hx:GType.R lo w r x) :
  Calls Tryz.prog 56 #[.agg r.toArray] w fun e w'=>∃r' bs,e=.returned (.agg r'.toArray)/\GType.O bs w' r' x/\bs.Nodup/\(∀b∈bs,w.heap.size<=b)/\Below w.heap.size w w':=by
 obtain⟨x0,x1,x2⟩:=x
 obtain⟨u0,rfl,⟨wx0,wx1⟩,a0⟩:=hx
 dsimp only at *
 have z0:=size_nonneg x0
 have z2:=bulkS_nonneg GCon.bulk_nonneg x2
 simp only[GType.bulk]at hl
 go_enter Tryz.func56,Tryz.ntmps56
 go_wp2_with (first|(go_at_call 98;((with_reducible refine(toConS_o x2 u0 lo ?_ _ ?_).mono ?_);omega;exact a0.below GCon.good (by go_grown);rintro e w1 ⟨v0,p0,rfl,c0,d0,fr0,hb⟩;have hf0:∀b∈p0,w.heap.size+3<=b:=(fun b h=>Nat.le_trans (by(try simp only[World.size_alloc,World.size_setCell,World.size_drew]);omega) (fr0 b h));obtain⟨av0,cv0,rfl⟩:=c0.form;clear fr0;have hw:Below w.heap.size w w1:=Below.trans (by go_grown) (hb.mono (by go_grown));obtain⟨hc,hf⟩:=bcell hb;have hz:=hw.size;have hz1:=hb.size;have hs0:w.heap.size<w1.heap.size:=(by have h:=hz1;(try simp only[World.size_alloc,World.size_setCell,World.size_drew]at h);omega);have hs1:w.heap.size+1<w1.heap.size:=(by have h:=hz1;(try simp only[World.size_alloc,World.size_setCell,World.size_drew]at h);omega);have hs2:w.heap.size+1+1<w1.heap.size:=(by have h:=hz1;(try simp only[World.size_alloc,World.size_setCell,World.size_drew]at h);omega);clear hb)))
 refine bodyPost_ret (v:=.agg #[.string x0,.int .i64 x1,.slice av0 x2.length cv0]) (by simp[results,Tryz.results56,go_sem, *]) rfl ?_
 refine⟨[.string x0,.int .i64 x1,.slice av0 x2.length cv0],p0,rfl,⟨_,rfl,⟨wx0,wx1⟩,(c0.kept GCon.ok (S:=fun b=>b<w.heap.size+3) (by repeat' (first|with_reducible exact Kept.refl _ _|with_reducible refine Kept.set ?_ ?_ _|(dsimp only;omega))) (fun b h hs=>by have:=hf0 b h;omega))⟩,d0,fun b h=>(by have:=hf0 b h;omega),by go_grown⟩
theorem toTypeS_o (x:List GType) (u:Value) (lo:Nat) (hlen:bulkS GType.bulk x<=1048576) (w:World) (hx:Sl GType.R 3 lo w u x) :
  Calls Tryz.prog 25 #[u] w fun e w'=>∃v bs,e=.returned v/\SlO 101 3 GType.O bs w' v x/\bs.Nodup/\(∀b∈bs,w.heap.size<=b)/\Below w.heap.size w w':=by
 obtain⟨a1,c1,rfl,l1,m1,hh⟩:=hx
 obtain⟨n,hn⟩ : ∃n,n=x.length:=⟨_,rfl⟩
 have hlen1:x.length<=1048576:=by have:=length_le_bulkS (f:=GType.bulk) GType.bulk_nonneg x;omega
 have hle:∀ {k:Nat} {p:GType},x[k]? = some p->GType.bulk p<=1048576:=fun hp=>by have:=le_bulkS (f:=GType.bulk) GType.bulk_nonneg hp;omega
 clear hlen
 rw[<- hn]at l1 hlen1 ⊢
 have X1:=kH hn
 clear hn
 obtain⟨i0,hi,hi0,hi1,hi2⟩:=info_parts info_TypeS
 have I:=kH hi;have I0:=kH hi0;have I1:=kH hi1;have I2:=kH hi2
 clear hi hi0 hi1 hi2
 go_enter Tryz.func25,Tryz.ntmps25
 go_wp2_with (at_make;refine wpList_make_full _ rfl _ _ _ rfl w.heap.size 101 i0 _ 3 Tryz.underlying36 I.out I0.out I1.out _ _ _ _ n rfl rfl rfl rfl (by rw[I2.out];omega) (by unfold maxLen;omega) (Nat.le_refl _) ?_;intro w1 hO hgw)
 have hb1:Below w.heap.size w w1:=(Below.refl w.heap.size w).grown (row:=none) hgw (Nat.le_refl _) (by simp)
 have hs1:w.heap.size<w1.heap.size:=(own_base hO _ rfl).2
 have O1:FillO 101 3 GType.O w.heap.size w1 w.heap.size n 0 [] x:=FillO.made hO x
 replace O1:=kH O1
 clear hO hgw
 go_loopw [4] (fun i wr=>∃ (k:Nat) (ps:List (List Nat)),k<=n/\i=.int .i64 k/\Below w.heap.size w wr/\w.heap.size+1<=wr.heap.size/\Hid (FillO 101 3 GType.O w.heap.size wr w.heap.size n k ps x)/\Hid (ps.flatten.Nodup)/\Hid (∀b∈ps.flatten,w.heap.size+1<=b/\b<wr.heap.size)) (fun i _=>n-(intOf i).toNat)
 case atStart=>exact⟨0,[],by omega,rfl,hb1,by omega,O1,List.nodup_nil,fun b h=>by cases h⟩
 case round=>
  clear hs1 hb1 O1
  obtain⟨k,ps,hk,rfl,hw,hz,hO,hN,hL⟩:=hrel
  by_cases hlt:k<n
  ·obtain⟨b1,o1,p,s1,_,rfl,P1,q1,r1⟩:=(hh.below GType.good hw).get X1 hlt
   have Q1:=q1
   obtain⟨s0,rfl,_,_⟩:=q1
   have R1:wr.cell? ⟨b1,o1+k*3,none⟩=some (.string p.name)/\wr.cell? ⟨b1,o1+k*3+1,none⟩=some (.int .i64 p.params)/\wr.cell? ⟨b1,o1+k*3+2,none⟩=some (s0):=⟨by simpa using r1 0 _ rfl,by simpa using r1 1 _ rfl,by simpa using r1 2 _ rfl⟩
   clear r1
   go_wp2_with (go_at_call 56;refine(toType_o p _ _ (hle P1.out) _ Q1).mono ?_;rintro e w2 ⟨r2,p2,rfl,q3,hnd2,hfr2,hb2⟩;have Q3:=kH q3;obtain⟨t0,rfl,hwf0,g0⟩:=q3;obtain⟨at0,ct0,rfl⟩:=g0.form;clear g0;have hA2:=((hO.out.below GType.ok hb2).arr (by omega)).2.2;have hO2:=kH (hO.out.below GType.ok hb2);have hw2:=hw.trans (hb2.mono hw.size);have hz2:=hb2.size;have hl2:=GType.ok.lt Q3.out;replace hl2:=kH hl2;replace hfr2:=kH hfr2;replace hnd2:=kH hnd2;clear hb2 hw hO R1;obtain⟨d0,e0,f0⟩:=hA2 (k*3) (by omega);obtain⟨d1,e1,f1⟩:=hA2 (k*3+1) (by omega);obtain⟨d2,e2,f2⟩:=hA2 (k*3+2) (by omega))
   have hl2' : ∀b∈(p2:List Nat),b<w2.heap.size:=hl2.out
   have hf2' : ∀b∈(p2:List Nat),wr.heap.size<=b:=hfr2.out
   go_roundw
   case rel=>exact⟨k+1,ps ++ [p2],by omega,by go_num,hw2.trans (below_storeRow w.heap.size [.string p.name,.int .i64 p.params,.slice at0 p.cons.length ct0] w2 (k*3)),Nat.le_trans hz (Nat.le_trans hz2 (Nat.le_of_eq (size_storeRow w.heap.size [.string p.name,.int .i64 p.params,.slice at0 p.cons.length ct0] w2 (k*3)).symm)),
    (hO2.out.step GType.ok hlt (off:=k*3) (r:=[.string p.name,.int .i64 p.params,.slice at0 p.cons.length ct0]) (by omega) P1.out rfl Q3.out (fun h=>by have:=hL.out _ h;omega) (fun h=>by have:=hf2' _ h;omega)),
    by show(ps ++ [p2]).flatten.Nodup;rw[List.flatten_append,List.flatten_singleton];exact List.nodup_append.2 ⟨hN.out,hnd2.out,fun b h b2 h2 e=>by subst e;have:=hL.out _ h;have:=hf2' _ h2;omega⟩,
    fun b h=>by
     rw[List.flatten_append,List.flatten_singleton]at h
     rcases List.mem_append.1 h with h|h
     ·have:=hL.out _ h;exact⟨this.1,Nat.lt_of_lt_of_le this.2 (Nat.le_trans hz2 (Nat.le_of_eq (size_storeRow w.heap.size [.string p.name,.int .i64 p.params,.slice at0 p.cons.length ct0] w2 (k*3)).symm))⟩
     ·have h1:=hf2' _ h;have h2:=hl2' _ h;exact⟨by omega,Nat.lt_of_lt_of_le h2 (Nat.le_of_eq (size_storeRow w.heap.size [.string p.name,.int .i64 p.params,.slice at0 p.cons.length ct0] w2 (k*3)).symm)⟩⟩
   case measure=>simp[intOf];omega
  ·go_wp2
   go_returns
   obtain rfl:k=n:=by omega
   exact⟨_,_,rfl,(hO.out.full X1.out).slO,List.nodup_cons.2 ⟨fun h=>by have:=(hL.out _ h).1;dsimp only at this;omega,hN.out⟩,fun b h=>by
    rcases List.mem_cons.1 h with h|h
    ·dsimp only at h;omega
    ·have:=(hL.out _ h).1;omega,hw⟩
theorem toNode_o (x:GNode) (r:List Value) (lo:Nat) (hl:x.bulk<=1048576) (w:World) (hx:GNode.R lo w r x) :
  Calls Tryz.prog 57 #[.agg r.toArray] w fun e w'=>∃r' bs,e=.returned (.agg r'.toArray)/\GNode.O bs w' r' x/\bs.Nodup/\(∀b∈bs,w.heap.size<=b)/\Below w.heap.size w w':=by
 obtain⟨x0,x1,x2,x3,x4,x5⟩:=x
 obtain⟨u0,u1,rfl,⟨wx0,wx1,wx2,wx3⟩,a0,a1⟩:=hx
 dsimp only at *
 have z3:=size_nonneg x3
 have z4:=length_nonneg x4
 have z5:=bulkS_nonneg GPat.bulk_nonneg x5
 simp only[GNode.bulk]at hl
 go_enter Tryz.func57,Tryz.ntmps57
 go_wp2_with (first|(go_at_call 99;((with_reducible refine(toIntS_o x4 u0 lo ?_ _ ?_).mono ?_);omega;exact a0.below IntR.good (by go_grown);rintro e w1 ⟨v0,p0,rfl,c0,d0,fr0,hb⟩;have hf0:∀b∈p0,w.heap.size+3<=b:=(fun b h=>Nat.le_trans (by(try simp only[World.size_alloc,World.size_setCell,World.size_drew]);omega) (fr0 b h));obtain⟨av0,cv0,rfl⟩:=c0.form;clear fr0;have hw:Below w.heap.size w w1:=Below.trans (by go_grown) (hb.mono (by go_grown));obtain⟨hc,hf⟩:=bcell hb;have hz:=hw.size;have hz1:=hb.size;have hs0:w.heap.size<w1.heap.size:=(by have h:=hz1;(try simp only[World.size_alloc,World.size_setCell,World.size_drew]at h);omega);have hs1:w.heap.size+1<w1.heap.size:=(by have h:=hz1;(try simp only[World.size_alloc,World.size_setCell,World.size_drew]at h);omega);have hs2:w.heap.size+1+1<w1.heap.size:=(by have h:=hz1;(try simp only[World.size_alloc,World.size_setCell,World.size_drew]at h);omega);clear hb))|(go_at_call 100;((with_reducible refine(toPatS_o x5 u1 lo ?_ _ ?_).mono ?_);omega;exact a1.below GPat.good (by go_grown);rintro e w1 ⟨v1,p1,rfl,c1,d1,fr1,hb⟩;have gt0:=c0.lt (flatO_ok flatInt);have c0:=SlO.below (flatO_ok flatInt) (SlO.kept (flatO_ok flatInt) (S:=fun b=>b<w.heap.size+3) c0 (by repeat' (first|with_reducible exact Kept.refl _ _|with_reducible refine Kept.set ?_ ?_ _|(dsimp only;omega))) (fun b h hs=>by have:=hf0 b h;omega)) hb;have x0_1:∀b∈p1,b ∉ p0:=(fun b h h2=>by have h3:=fr1 b h;have h4:=gt0 b h2;(try simp only[World.size_alloc,World.size_setCell,World.size_drew]at h3);omega);have hf1:∀b∈p1,w.heap.size+3<=b:=(fun b h=>Nat.le_trans (by(try simp only[World.size_alloc,World.size_setCell,World.size_drew]);omega) (fr1 b h));obtain⟨av1,cv1,rfl⟩:=c1.form;clear fr1;have hw:Below w.heap.size w w1:=Below.trans (by go_grown) (hb.mono (by go_grown));obtain⟨hc,hf⟩:=bcell hb;have hz:=hw.size;have hz1:=hb.size;have hs0:w.heap.size<w1.heap.size:=(by have h:=hz1;(try simp only[World.size_alloc,World.size_setCell,World.size_drew]at h);omega);have hs1:w.heap.size+1<w1.heap.size:=(by have h:=hz1;(try simp only[World.size_alloc,World.size_setCell,World.size_drew]at h);omega);have hs2:w.heap.size+1+1<w1.heap.size:=(by have h:=hz1;(try simp only[World.size_alloc,World.size_setCell,World.size_drew]at h);omega);clear hb)))
 refine bodyPost_ret (v:=.agg #[.int .i64 x0,.int .i64 x1,.int .i64 x2,.string x3,.slice av0 x4.length cv0,.slice av1 x5.length cv1]) (by simp[results,Tryz.results57,go_sem, *]) rfl ?_
 refine⟨[.int .i64 x0,.int .i64 x1,.int .i64 x2,.string x3,.slice av0 x4.length cv0,.slice av1 x5.length cv1],p0++p1,rfl,⟨_,p0,_,p1,rfl,rfl,⟨wx0,wx1,wx2,wx3⟩,(c0.kept (flatO_ok flatInt) (S:=fun b=>b<w.heap.size+3) (by repeat' (first|with_reducible exact Kept.refl _ _|with_reducible refine Kept.set ?_ ?_ _|(dsimp only;omega))) (fun b h hs=>by have:=hf0 b h;omega)),(c1.kept GPat.ok (S:=fun b=>b<w.heap.size+3) (by repeat' (first|with_reducible exact Kept.refl _ _|with_reducible refine Kept.set ?_ ?_ _|(dsimp only;omega))) (fun b h hs=>by have:=hf1 b h;omega))⟩,List.nodup_append.2 ⟨d0,d1,fun b h b2 h2 e=>x0_1 b2 h2 (e ▸ h)⟩,fun b h=>(by rcases List.mem_append.1 h with h|h;(have:=hf0 b h;omega);(have:=hf1 b h;omega)),by go_grown⟩
theorem toNodeS_o (x:List GNode) (u:Value) (lo:Nat) (hlen:bulkS GNode.bulk x<=1048576) (w:World) (hx:Sl GNode.R 6 lo w u x) :
  Calls Tryz.prog 26 #[u] w fun e w'=>∃v bs,e=.returned v/\SlO 123 6 GNode.O bs w' v x/\bs.Nodup/\(∀b∈bs,w.heap.size<=b)/\Below w.heap.size w w':=by
 obtain⟨a1,c1,rfl,l1,m1,hh⟩:=hx
 obtain⟨n,hn⟩ : ∃n,n=x.length:=⟨_,rfl⟩
 have hlen1:x.length<=1048576:=by have:=length_le_bulkS (f:=GNode.bulk) GNode.bulk_nonneg x;omega
 have hle:∀ {k:Nat} {p:GNode},x[k]? = some p->GNode.bulk p<=1048576:=fun hp=>by have:=le_bulkS (f:=GNode.bulk) GNode.bulk_nonneg hp;omega
 clear hlen
 rw[<- hn]at l1 hlen1 ⊢
 have X1:=kH hn
 clear hn
 obtain⟨i0,hi,hi0,hi1,hi2⟩:=info_parts info_NodeS
 have I:=kH hi;have I0:=kH hi0;have I1:=kH hi1;have I2:=kH hi2
 clear hi hi0 hi1 hi2
 go_enter Tryz.func26,Tryz.ntmps26
 go_wp2_with (at_make;refine wpList_make_full _ rfl _ _ _ rfl w.heap.size 123 i0 _ 6 Tryz.underlying37 I.out I0.out I1.out _ _ _ _ n rfl rfl rfl rfl (by rw[I2.out];omega) (by unfold maxLen;omega) (Nat.le_refl _) ?_;intro w1 hO hgw)
 have hb1:Below w.heap.size w w1:=(Below.refl w.heap.size w).grown (row:=none) hgw (Nat.le_refl _) (by simp)
 have hs1:w.heap.size<w1.heap.size:=(own_base hO _ rfl).2
 have O1:FillO 123 6 GNode.O w.heap.size w1 w.heap.size n 0 [] x:=FillO.made hO x
 replace O1:=kH O1
 clear hO hgw
 go_loopw [4] (fun i wr=>∃ (k:Nat) (ps:List (List Nat)),k<=n/\i=.int .i64 k/\Below w.heap.size w wr/\w.heap.size+1<=wr.heap.size/\Hid (FillO 123 6 GNode.O w.heap.size wr w.heap.size n k ps x)/\Hid (ps.flatten.Nodup)/\Hid (∀b∈ps.flatten,w.heap.size+1<=b/\b<wr.heap.size)) (fun i _=>n-(intOf i).toNat)
 case atStart=>exact⟨0,[],by omega,rfl,hb1,by omega,O1,List.nodup_nil,fun b h=>by cases h⟩
 case round=>
  clear hs1 hb1 O1
  obtain⟨k,ps,hk,rfl,hw,hz,hO,hN,hL⟩:=hrel
  by_cases hlt:k<n
  ·obtain⟨b1,o1,p,s1,_,rfl,P1,q1,r1⟩:=(hh.below GNode.good hw).get X1 hlt
   have Q1:=q1
   obtain⟨s0,s1,rfl,_,_,_⟩:=q1
   have R1:wr.cell? ⟨b1,o1+k*6,none⟩=some (.int .i64 p.kind)/\wr.cell? ⟨b1,o1+k*6+1,none⟩=some (.int .i64 p.at_)/\wr.cell? ⟨b1,o1+k*6+2,none⟩=some (.int .i64 p.n)/\wr.cell? ⟨b1,o1+k*6+3,none⟩=some (.string p.s)/\wr.cell? ⟨b1,o1+k*6+4,none⟩=some (s0)/\wr.cell? ⟨b1,o1+k*6+5,none⟩=some (s1):=⟨by simpa using r1 0 _ rfl,by simpa using r1 1 _ rfl,by simpa using r1 2 _ rfl,by simpa using r1 3 _ rfl,by simpa using r1 4 _ rfl,by simpa using r1 5 _ rfl⟩
   clear r1
   go_wp2_with (go_at_call 57;refine(toNode_o p _ _ (hle P1.out) _ Q1).mono ?_;rintro e w2 ⟨r2,p2,rfl,q3,hnd2,hfr2,hb2⟩;have Q3:=kH q3;obtain⟨t0,c0,t1,c1,rfl,hbs0,hwf0,g0,g1⟩:=q3;obtain⟨at0,ct0,rfl⟩:=g0.form;clear g0;obtain⟨at1,ct1,rfl⟩:=g1.form;clear g1;have hA2:=((hO.out.below GNode.ok hb2).arr (by omega)).2.2;have hO2:=kH (hO.out.below GNode.ok hb2);have hw2:=hw.trans (hb2.mono hw.size);have hz2:=hb2.size;have hl2:=GNode.ok.lt Q3.out;replace hl2:=kH hl2;replace hfr2:=kH hfr2;replace hnd2:=kH hnd2;clear hb2 hw hO R1;obtain⟨d0,e0,f0⟩:=hA2 (k*6) (by omega);obtain⟨d1,e1,f1⟩:=hA2 (k*6+1) (by omega);obtain⟨d2,e2,f2⟩:=hA2 (k*6+2) (by omega);obtain⟨d3,e3,f3⟩:=hA2 (k*6+3) (by omega);obtain⟨d4,e4,f4⟩:=hA2 (k*6+4) (by omega);obtain⟨d5,e5,f5⟩:=hA2 (k*6+5) (by omega))
   have hl2' : ∀b∈(p2:List Nat),b<w2.heap.size:=hl2.out
   have hf2' : ∀b∈(p2:List Nat),wr.heap.size<=b:=hfr2.out
   go_roundw
   case rel=>exact⟨k+1,ps ++ [p2],by omega,by go_num,hw2.trans (below_storeRow w.heap.size [.int .i64 p.kind,.int .i64 p.at_,.int .i64 p.n,.string p.s,.slice at0 p.kids.length ct0,.slice at1 p.pats.length ct1] w2 (k*6)),Nat.le_trans hz (Nat.le_trans hz2 (Nat.le_of_eq (size_storeRow w.heap.size [.int .i64 p.kind,.int .i64 p.at_,.int .i64 p.n,.string p.s,.slice at0 p.kids.length ct0,.slice at1 p.pats.length ct1] w2 (k*6)).symm)),
    (hO2.out.step GNode.ok hlt (off:=k*6) (r:=[.int .i64 p.kind,.int .i64 p.at_,.int .i64 p.n,.string p.s,.slice at0 p.kids.length ct0,.slice at1 p.pats.length ct1]) (by omega) P1.out rfl Q3.out (fun h=>by have:=hL.out _ h;omega) (fun h=>by have:=hf2' _ h;omega)),
    by show(ps ++ [p2]).flatten.Nodup;rw[List.flatten_append,List.flatten_singleton];exact List.nodup_append.2 ⟨hN.out,hnd2.out,fun b h b2 h2 e=>by subst e;have:=hL.out _ h;have:=hf2' _ h2;omega⟩,
    fun b h=>by
     rw[List.flatten_append,List.flatten_singleton]at h
     rcases List.mem_append.1 h with h|h
     ·have:=hL.out _ h;exact⟨this.1,Nat.lt_of_lt_of_le this.2 (Nat.le_trans hz2 (Nat.le_of_eq (size_storeRow w.heap.size [.int .i64 p.kind,.int .i64 p.at_,.int .i64 p.n,.string p.s,.slice at0 p.kids.length ct0,.slice at1 p.pats.length ct1] w2 (k*6)).symm))⟩
     ·have h1:=hf2' _ h;have h2:=hl2' _ h;exact⟨by omega,Nat.lt_of_lt_of_le h2 (Nat.le_of_eq (size_storeRow w.heap.size [.int .i64 p.kind,.int .i64 p.at_,.int .i64 p.n,.string p.s,.slice at0 p.kids.length ct0,.slice at1 p.pats.length ct1] w2 (k*6)).symm)⟩⟩
   case measure=>simp[intOf];omega
  ·go_wp2
   go_returns
   obtain rfl:k=n:=by omega
   exact⟨_,_,rfl,(hO.out.full X1.out).slO,List.nodup_cons.2 ⟨fun h=>by have:=(hL.out _ h).1;dsimp only at this;omega,hN.out⟩,fun b h=>by
    rcases List.mem_cons.1 h with h|h
    ·dsimp only at h;omega
    ·have:=(hL.out _ h).1;omega,hw⟩
theorem toProgram_o (x:GProgram) (r:List Value) (lo:Nat) (hl:x.bulk<=1048576) (w:World) (hx:GProgram.R lo w r x) :
  Calls Tryz.prog 7 #[.agg r.toArray] w fun e w'=>∃r' bs,e=.returned (.agg r'.toArray)/\GProgram.O bs w' r' x/\bs.Nodup/\(∀b∈bs,w.heap.size<=b)/\Below w.heap.size w w':=by
 obtain⟨x0,x1⟩:=x
 obtain⟨u0,u1,rfl,_,a0,a1⟩:=hx
 dsimp only at *
 have z0:=bulkS_nonneg GType.bulk_nonneg x0
 have z1:=bulkS_nonneg GNode.bulk_nonneg x1
 simp only[GProgram.bulk]at hl
 go_enter Tryz.func7,Tryz.ntmps7
 go_wp2_with (first|(go_at_call 25;((with_reducible refine(toTypeS_o x0 u0 lo ?_ _ ?_).mono ?_);omega;exact a0.below GType.good (by go_grown);rintro e w1 ⟨v0,p0,rfl,c0,d0,fr0,hb⟩;have hf0:∀b∈p0,w.heap.size+3<=b:=(fun b h=>Nat.le_trans (by(try simp only[World.size_alloc,World.size_setCell,World.size_drew]);omega) (fr0 b h));obtain⟨av0,cv0,rfl⟩:=c0.form;clear fr0;have hw:Below w.heap.size w w1:=Below.trans (by go_grown) (hb.mono (by go_grown));obtain⟨hc,hf⟩:=bcell hb;have hz:=hw.size;have hz1:=hb.size;have hs0:w.heap.size<w1.heap.size:=(by have h:=hz1;(try simp only[World.size_alloc,World.size_setCell,World.size_drew]at h);omega);have hs1:w.heap.size+1<w1.heap.size:=(by have h:=hz1;(try simp only[World.size_alloc,World.size_setCell,World.size_drew]at h);omega);have hs2:w.heap.size+1+1<w1.heap.size:=(by have h:=hz1;(try simp only[World.size_alloc,World.size_setCell,World.size_drew]at h);omega);clear hb))|(go_at_call 26;((with_reducible refine(toNodeS_o x1 u1 lo ?_ _ ?_).mono ?_);omega;exact a1.below GNode.good (by go_grown);rintro e w1 ⟨v1,p1,rfl,c1,d1,fr1,hb⟩;have gt0:=c0.lt GType.ok;have c0:=SlO.below GType.ok (SlO.kept GType.ok (S:=fun b=>b<w.heap.size+3) c0 (by repeat' (first|with_reducible exact Kept.refl _ _|with_reducible refine Kept.set ?_ ?_ _|(dsimp only;omega))) (fun b h hs=>by have:=hf0 b h;omega)) hb;have x0_1:∀b∈p1,b ∉ p0:=(fun b h h2=>by have h3:=fr1 b h;have h4:=gt0 b h2;(try simp only[World.size_alloc,World.size_setCell,World.size_drew]at h3);omega);have hf1:∀b∈p1,w.heap.size+3<=b:=(fun b h=>Nat.le_trans (by(try simp only[World.size_alloc,World.size_setCell,World.size_drew]);omega) (fr1 b h));obtain⟨av1,cv1,rfl⟩:=c1.form;clear fr1;have hw:Below w.heap.size w w1:=Below.trans (by go_grown) (hb.mono (by go_grown));obtain⟨hc,hf⟩:=bcell hb;have hz:=hw.size;have hz1:=hb.size;have hs0:w.heap.size<w1.heap.size:=(by have h:=hz1;(try simp only[World.size_alloc,World.size_setCell,World.size_drew]at h);omega);have hs1:w.heap.size+1<w1.heap.size:=(by have h:=hz1;(try simp only[World.size_alloc,World.size_setCell,World.size_drew]at h);omega);have hs2:w.heap.size+1+1<w1.heap.size:=(by have h:=hz1;(try simp only[World.size_alloc,World.size_setCell,World.size_drew]at h);omega);clear hb)))
 refine bodyPost_ret (v:=.agg #[.slice av0 x0.length cv0,.slice av1 x1.length cv1]) (by simp[results,Tryz.results7,go_sem, *]) rfl ?_
 refine⟨[.slice av0 x0.length cv0,.slice av1 x1.length cv1],p0++p1,rfl,⟨_,p0,_,p1,rfl,rfl,trivial,(c0.kept GType.ok (S:=fun b=>b<w.heap.size+3) (by repeat' (first|with_reducible exact Kept.refl _ _|with_reducible refine Kept.set ?_ ?_ _|(dsimp only;omega))) (fun b h hs=>by have:=hf0 b h;omega)),(c1.kept GNode.ok (S:=fun b=>b<w.heap.size+3) (by repeat' (first|with_reducible exact Kept.refl _ _|with_reducible refine Kept.set ?_ ?_ _|(dsimp only;omega))) (fun b h hs=>by have:=hf1 b h;omega))⟩,List.nodup_append.2 ⟨d0,d1,fun b h b2 h2 e=>x0_1 b2 h2 (e ▸ h)⟩,fun b h=>(by rcases List.mem_append.1 h with h|h;(have:=hf0 b h;omega);(have:=hf1 b h;omega)),by go_grown⟩
def GDNode.O:FootR GDNode:=fun bs w r x=>∃u0:Value,r=[.int .i64 x.kind,.int .i64 x.n,.string x.s,u0]/\x.wf/\SlO 3 1 (FlatO intRow I64) bs w u0 x.kids
theorem GDNode.ok:FootOk GDNode.O GDNode.R where
 loc:=fun⟨u0,hr,hwf,s0⟩ hs=>⟨u0,hr,hwf,s0.loc (flatO_ok flatInt) hs⟩
 lt:=fun⟨u0,hr,hwf,s0⟩=>s0.lt (flatO_ok flatInt)
 read:=fun⟨u0,hr,hwf,s0⟩ hlo=>⟨u0,hr,hwf,s0.sl (flatO_ok flatInt) hlo⟩
def cntDNode (x:GDNode):Nat:=3+cntL cntInt x.kids
def mkDNode (k:Nat) (x:GDNode):GDNode:=⟨(k:Int),((k+1:Nat):Int),markT (k+2),markL mkInt cntInt (k+3) x.kids⟩
def LenOkDNode (xs:List GDNode):Prop:=xs.length<=4611686018427387904/\∀x∈xs,x.kids.length<=4611686018427387904
theorem markDNodeS_c (v:Value) (bs:List Nat) (k lo:Nat) (z:Int) (hz:z=(k:Int)) (xs:List GDNode) (w:World) (S:SlO 109 4 GDNode.O bs w v xs) (hnd:bs.Nodup) (hlo:∀b∈bs,lo<=b) (hlw:lo<=w.heap.size) (hkn:k+cntL cntDNode xs<=4611686018427387904) (hlN:LenOkDNode xs) :
  Calls Tryz.prog 39 #[v,.int .i64 z] w fun e w'=>e=.returned (.int .i64 ((k+cntL cntDNode xs:Nat):Int))/\SlO 109 4 GDNode.O bs w' v (markL mkDNode cntDNode k xs)/\Kept (·∈bs) w w'/\Below lo w w':=by
 subst hz
 obtain⟨a,c,rfl⟩:=S.form
 obtain⟨n,hn⟩ : ∃n,n=xs.length:=⟨_,rfl⟩
 have hln:n<=4611686018427387904:=by rw[hn];unfold LenOkDNode at hlN;omega
 rw[<- hn]at S ⊢
 replace hn:=kH hn;replace S:=kH S;replace hnd:=kH hnd;replace hlo:=kH hlo;replace hkn:=kH hkn;replace hlN:=kH hlN
 go_enter Tryz.func39,Tryz.ntmps39
 go_wp2_with fail
 go_loopw [1,5] (fun kk i wr=>∃m j:Nat,j<=n/\Hid (m=k+cntL cntDNode (xs.take j))/\kk=.int .i64 m/\i=.int .i64 j/\Hid (SlO 109 4 GDNode.O bs wr (.slice a n c) (markN mkDNode cntDNode k xs j))/\Below lo w wr/\Hid (Kept (·∈bs) w wr)) (fun _ i _=>n-(intOf i).toNat)
 case atStart=>exact⟨k,0,by omega,by show _=_;simp[cntL],rfl,rfl,by show SlO _ _ _ _ _ _ _;rw[markN_zero];exact S.out,Below.refl _ _,Kept.refl _ _⟩
 case round=>
  clear S
  obtain⟨m,j,hj,hm,rfl,rfl,S,hw0,hK0⟩:=hrel
  have hz0:=hw0.size
  by_cases hlt:j<n
  ·obtain⟨x,hx⟩ : ∃x,xs[j]? = some x:=⟨_,List.getElem?_eq_getElem (by have:=hn.out;omega)⟩
   have hks:=cntL_take (cnt:=cntDNode) hx
   have hle:=cntL_le cntDNode xs (j+1)
   have hmx:m+cntDNode x<=4611686018427387904:=by have:=hkn.out;have:=hm.out;omega
   have hS:=S.out
   clear S
   rcases hS with⟨he,_⟩|⟨ps,⟨rows,hown,hrows⟩,hbs⟩
   ·exfalso
    have:=markN_length (mk:=mkDNode) (cnt:=cntDNode) k xs j
    rw[he]at this
    have:=hn.out
    simp at *
    omega
   rw[markN_length,<- hn.out]at hown
   obtain⟨g,cap,hv,-⟩:=own_cells hown (by omega)
   obtain⟨rfl,rfl⟩ : a=some ⟨g,0,none⟩/\c=cap:=by injection hv with e1 e2 e3;exact⟨e1,e3⟩
   clear hv
   obtain⟨p,r,hp,hr,hrl,ho⟩:=hrows.at (markN_get hx)
   have M0:=MidO.start hown hrows.wide (by rw[hrows.lr,markN_length,<- hn.out]) hr
   have hnd2:=hnd.out
   rw[hbs,fpO_slice,List.nodup_cons]at hnd2
   have hgp:g ∉ p:=fun h=>hnd2.1 (List.mem_flatten.2 ⟨p,List.mem_of_getElem? hp,h⟩)
   have hpn:p.Nodup:=(List.pairwise_flatten.1 hnd2.2).1 p (List.mem_of_getElem? hp)
   have hpb:∀b∈p,b∈bs:=fun b hb=>by rw[hbs,fpO_slice];exact List.mem_cons_of_mem _ (List.mem_flatten.2 ⟨p,List.mem_of_getElem? hp,hb⟩)
   have hgb:g∈bs:=by rw[hbs,fpO_slice];exact List.mem_cons_self
   have hlog:lo<=g:=hlo.out g hgb
   have hgw:=M0.lt
   obtain⟨u0,rfl,hwf,s0⟩:=ho
   have hpe:=hwf
   have hl0:=hlN.out.2 x (List.mem_of_getElem? hx)
   replace s0:=kH s0
   unfold cntDNode at hmx
   obtain⟨e0,f0⟩:=M0.cell (off:=j*4) (t:=0) (by omega) rfl
   obtain⟨e1,f1⟩:=M0.cell (off:=j*4+1) (t:=1) (by omega) rfl
   obtain⟨e2,f2⟩:=M0.cell (off:=j*4+2) (t:=2) (by omega) rfl
   obtain⟨e3,f3⟩:=M0.cell (off:=j*4+3) (t:=3) (by omega) rfl
   clear hown
   replace hrows:=kH hrows;replace hbs:=kH hbs;replace hp:=kH hp;replace hx:=kH hx;replace hks:=kH hks;replace hle:=kH hle;replace M0:=kH M0;replace hr:=kH hr;replace hrl:=kH hrl;replace hwf:=kH hwf;replace hnd2:=kH hnd2;replace hpb:=kH hpb;replace hgp:=kH hgp;replace hgb:=kH hgb;replace hpe:=kH hpe;replace hpn:=kH hpn
   go_wp2_with fail
   refine(markText_z (m+2) _ (by omega) (by omega) _).mono ?_
   rintro e w2 ⟨rfl,hb2⟩
   have M1:=MidO.below ((M0.out.set (off:=j*4) (t:=0) (by omega) (by omega) (.int .i64 (m:Int))).set (off:=j*4+1) (t:=1) (by omega) (by omega) (.int .i64 ((m:Int)+1))) hb2
   have K1:=(((Kept.refl (fun b=>b=g) wr).set (p:=⟨g,j*4,none⟩) rfl (.int .i64 (m:Int))).set (p:=⟨g,j*4+1,none⟩) rfl (.int .i64 ((m:Int)+1))).trans (by simp[World.setCell]) (Kept.below hb2)
   have B1:=((hw0.setCell (p:=⟨g,j*4,none⟩) (by dsimp only;omega) (.int .i64 (m:Int))).setCell (p:=⟨g,j*4+1,none⟩) (by dsimp only;omega) (.int .i64 ((m:Int)+1))).trans (hb2.mono (by simp[World.setCell];omega))
   have z1:=B1.size
   have gw1:=M1.lt
   obtain⟨e2',f2'⟩:=M1.cell (off:=j*4+2) (t:=2) (by omega) rfl
   obtain⟨e3',f3'⟩:=M1.cell (off:=j*4+3) (t:=3) (by omega) rfl
   have zz:wr.heap.size<=w2.heap.size:=by have:=hb2.size;simpa [World.setCell] using this
   clear hb2 e0 e1 e2 e3 f0 f1 f2 f3
   have M2:=M1.set (off:=j*4+2) (t:=2) (by omega) (by omega) (.string (markT (m+2)))
   have K2:=K1.set (p:=⟨g,j*4+2,none⟩) rfl (.string (markT (m+2)))
   have B2:=B1.setCell (p:=⟨g,j*4+2,none⟩) (by dsimp only;omega) (.string (markT (m+2)))
   have z2:(w2.setCell ⟨g,j*4+2,none⟩ (.string (markT (m+2)))).heap.size=w2.heap.size:=by simp[World.setCell]
   replace M2:=kH M2;replace K2:=kH K2;replace B2:=kH B2;replace M1:=kH M1;replace K1:=kH K1
   go_wp2_with fail
   refine(markIntS_c u0 p (m+3) lo _ (by omega) x.kids _ (s0.out.kept (flatO_ok flatInt) K2.out (fun b hb h=>hgp.out (h ▸ hb))) hpn.out (fun b hb=>hlo.out b (hpb.out b hb)) (by rw[z2];omega) (by omega) hl0).mono ?_
   rintro e w3 ⟨rfl,t0,hk3,hb3⟩
   have hz3:=hb3.size
   rw[z2]at hz3
   have MF:=M2.out.kept hk3 hgp.out
   have KF:=(kept_imp (S':=fun b=>b=g\/b∈p) K2.out fun q h=>.inl h).trans (by rw[z2];exact zz) (kept_imp hk3 fun q h=>.inr h)
   have BF:=B2.out.trans hb3
   replace MF:=kH MF;replace KF:=kH KF;replace t0:=kH t0
   obtain⟨m1,hm1⟩ : ∃y,y=m+3+cntL cntInt x.kids:=⟨_,rfl⟩
   rw[<- hm1]
   replace hm1:=kH hm1
   clear hb3 hk3
   go_wp2_with fail
   go_roundw
   case rel=>exact⟨m1,j+1,by omega,by show _=_;rw[hks.out,hm1.out,hm.out];unfold cntDNode;omega,by go_num,by go_num,.inr ⟨ps,(GrowO.mark GDNode.ok (k:=k) rfl hrows.out hx.out hp.out (hbs.out ▸ hnd.out) (r:=[.int .i64 (m:Int),.int .i64 ((m:Int)+1),.string (markT (m+2)),u0]) rfl hn.out MF.out.own (by rw[<- hm.out];exact⟨u0,by simp[mkDNode],⟨by unfold mkDNode I64;dsimp only;omega,by unfold mkDNode I64;dsimp only;omega,markT_ok (n:=m+2) (by omega)⟩,t0.out⟩) KF.out),hbs.out⟩,BF,hK0.out.trans hz0 (kept_imp KF.out fun q h=>by rcases h with h|h;(subst h;exact hgb.out);exact hpb.out q h)⟩
   case measure=>simp[intOf];omega
  ·obtain rfl:j=n:=by omega
   have e1:=hn.out
   have h2:=S.out
   have h3:=hm.out
   rw[List.take_of_length_le (by omega)]at h3
   rw[e1,markN_all,<- e1]at h2
   replace h2:=kH h2;replace h3:=kH h3
   clear e1
   go_wp2
   go_returns
   exact⟨by rw[<- h3.out];rfl,h2.out,hK0.out,hw0⟩
def GData.O:FootR GData:=fun bs w r x=>∃u0:Value,r=[u0]/\x.wf/\SlO 109 4 GDNode.O bs w u0 x.nodes
theorem GData.ok:FootOk GData.O GData.R where
 loc:=fun⟨u0,hr,hwf,s0⟩ hs=>⟨u0,hr,hwf,s0.loc GDNode.ok hs⟩
 lt:=fun⟨u0,hr,hwf,s0⟩=>s0.lt GDNode.ok
 read:=fun⟨u0,hr,hwf,s0⟩ hlo=>⟨u0,hr,hwf,s0.sl GDNode.ok hlo⟩
def cntData (x:GData):Nat:=cntL cntDNode x.nodes
def mkData (k:Nat) (x:GData):GData:=⟨markL mkDNode cntDNode k x.nodes⟩
def LenOkData (x:GData):Prop:=LenOkDNode x.nodes
theorem markDataO_c (r:List Value) (bs:List Nat) (k lo:Nat) (z:Int) (hz:z=(k:Int)) (x:GData) (w:World) (S:GData.O bs w r x) (hnd:bs.Nodup) (hlo:∀b∈bs,lo<=b) (hlw:lo<=w.heap.size) (hkn:k+cntData x<=4611686018427387904) (hlN:LenOkData x) :
  Calls Tryz.prog 14 #[.agg r.toArray,.int .i64 z] w fun e w'=>e=.returned (.int .i64 ((k+cntData x:Nat):Int))/\GData.O bs w' r (mkData k x)/\Kept (·∈bs) w w'/\Below lo w w':=by
 subst hz
 obtain⟨u0,rfl,hwf,s0⟩:=S
 obtain⟨a0,c0,rfl⟩:=s0.form
 obtain⟨l⟩:=x
 dsimp only at *
 unfold cntData LenOkData at *
 dsimp only at *
 have cM:=fun W (hW:Below w.heap.size w W)=>markDNodeS_c _ bs k lo _ rfl l W (s0.below GDNode.ok hW) hnd hlo (Nat.le_trans hlw hW.size) hkn hlN
 generalize l.length=n at *
 replace cM:=kH cM
 clear hlN
 show Calls Tryz.prog 14 #[.agg #[.slice a0 n c0],.int .i64 k] w _
 go_enter Tryz.func14,Tryz.ntmps14
 go_upto_region 1 with fail
 obtain⟨w1,hW1⟩ : ∃W,W=w.alloc (.cells #[.slice a0 n c0] 43):=⟨_,rfl⟩
 rw[<- hW1]
 have hb1:Below w.heap.size w w1:=by rw[hW1];go_grown
 have C:RowAt w1 w.heap.size 0 [.slice a0 n c0]:=by rw[hW1];exact RowAt.box w #[_] _
 clear hW1
 have hz1:=hb1.size
 have c_0:=C.box1;have hsC:=bLt c_0
 go_wp2_with fail
 refine(cM.out w1 hb1).mono ?_
 rintro e w2 ⟨rfl,q0,hK2,hb2⟩
 have KF:Kept (·∈bs) w w2:=fun b h1 h2=>by rw[hK2 b (by omega) h2,hb1.block b h1]
 have BF:Below lo w w2:=(hb1.mono hlw).trans hb2
 clear c_0 hsC C hK2 hb2
 go_wp2_with fail
 go_returns
 exact⟨rfl,⟨_,rfl,hwf,q0⟩,KF,BF⟩
theorem cntDNode_le:∀xs:List GDNode,(cntL cntDNode xs:Int)<=3*bulkS GDNode.bulk xs
 |[]=>by simp[cntL,bulkS]
 |x :: xs=>by
  have h:=cntDNode_le xs
  have h1:=x.bulk_nonneg
  have h2:cntL cntInt x.kids=x.kids.length:=by
   induction x.kids with
   |nil=>rfl
   |cons a l ih=>simp[cntL,cntInt]at ih ⊢;omega
  simp only[cntL,bulkS,List.map_cons,List.sum_cons,List.length_cons,GDNode.bulk,cntDNode]at *
  omega
theorem dataCnt_ok {x:GData} (h:x.bulk<=1048576):1+cntData x<=4611686018427387904/\LenOkData x:=by
 have h1:=cntDNode_le x.nodes
 have h2:bulkS GDNode.bulk x.nodes<=1048576:=h
 have h3:=length_le_bulkS (f:=GDNode.bulk) GDNode.bulk_nonneg x.nodes
 refine⟨by unfold cntData;omega,by omega,fun y hy=>?_⟩
 obtain⟨i,hi⟩:=List.getElem?_of_mem hy
 have h4:=le_bulkS (f:=GDNode.bulk) GDNode.bulk_nonneg hi
 have h5:(y.s.size:Int)+y.kids.length<=bulkS GDNode.bulk x.nodes:=h4
 have:=size_nonneg y.s
 omega
theorem toDNode_o (x:GDNode) (r:List Value) (lo:Nat) (hl:x.bulk<=1048576) (w:World) (hx:GDNode.R lo w r x) :
  Calls Tryz.prog 58 #[.agg r.toArray] w fun e w'=>∃r' bs,e=.returned (.agg r'.toArray)/\GDNode.O bs w' r' x/\bs.Nodup/\(∀b∈bs,w.heap.size<=b)/\Below w.heap.size w w':=by
 obtain⟨x0,x1,x2,x3⟩:=x
 obtain⟨u0,rfl,⟨wx0,wx1,wx2⟩,a0⟩:=hx
 dsimp only at *
 have z2:=size_nonneg x2
 have z3:=length_nonneg x3
 simp only[GDNode.bulk]at hl
 go_enter Tryz.func58,Tryz.ntmps58
 go_wp2_with (first|(go_at_call 99;((with_reducible refine(toIntS_o x3 u0 lo ?_ _ ?_).mono ?_);omega;exact a0.below IntR.good (by go_grown);rintro e w1 ⟨v0,p0,rfl,c0,d0,fr0,hb⟩;have hf0:∀b∈p0,w.heap.size+3<=b:=(fun b h=>Nat.le_trans (by(try simp only[World.size_alloc,World.size_setCell,World.size_drew]);omega) (fr0 b h));obtain⟨av0,cv0,rfl⟩:=c0.form;clear fr0;have hw:Below w.heap.size w w1:=Below.trans (by go_grown) (hb.mono (by go_grown));obtain⟨hc,hf⟩:=bcell hb;have hz:=hw.size;have hz1:=hb.size;have hs0:w.heap.size<w1.heap.size:=(by have h:=hz1;(try simp only[World.size_alloc,World.size_setCell,World.size_drew]at h);omega);have hs1:w.heap.size+1<w1.heap.size:=(by have h:=hz1;(try simp only[World.size_alloc,World.size_setCell,World.size_drew]at h);omega);have hs2:w.heap.size+1+1<w1.heap.size:=(by have h:=hz1;(try simp only[World.size_alloc,World.size_setCell,World.size_drew]at h);omega);clear hb)))
 refine bodyPost_ret (v:=.agg #[.int .i64 x0,.int .i64 x1,.string x2,.slice av0 x3.length cv0]) (by simp[results,Tryz.results58,go_sem, *]) rfl ?_
 refine⟨[.int .i64 x0,.int .i64 x1,.string x2,.slice av0 x3.length cv0],p0,rfl,⟨_,rfl,⟨wx0,wx1,wx2⟩,(c0.kept (flatO_ok flatInt) (S:=fun b=>b<w.heap.size+3) (by repeat' (first|with_reducible exact Kept.refl _ _|with_reducible refine Kept.set ?_ ?_ _|(dsimp only;omega))) (fun b h hs=>by have:=hf0 b h;omega))⟩,d0,fun b h=>(by have:=hf0 b h;omega),by go_grown⟩
theorem toDNodeS_o (x:List GDNode) (u:Value) (lo:Nat) (hlen:bulkS GDNode.bulk x<=1048576) (w:World) (hx:Sl GDNode.R 4 lo w u x) :
  Calls Tryz.prog 27 #[u] w fun e w'=>∃v bs,e=.returned v/\SlO 109 4 GDNode.O bs w' v x/\bs.Nodup/\(∀b∈bs,w.heap.size<=b)/\Below w.heap.size w w':=by
 obtain⟨a1,c1,rfl,l1,m1,hh⟩:=hx
 obtain⟨n,hn⟩ : ∃n,n=x.length:=⟨_,rfl⟩
 have hlen1:x.length<=1048576:=by have:=length_le_bulkS (f:=GDNode.bulk) GDNode.bulk_nonneg x;omega
 have hle:∀ {k:Nat} {p:GDNode},x[k]? = some p->GDNode.bulk p<=1048576:=fun hp=>by have:=le_bulkS (f:=GDNode.bulk) GDNode.bulk_nonneg hp;omega
 clear hlen
 rw[<- hn]at l1 hlen1 ⊢
 have X1:=kH hn
 clear hn
 obtain⟨i0,hi,hi0,hi1,hi2⟩:=info_parts info_DNodeS
 have I:=kH hi;have I0:=kH hi0;have I1:=kH hi1;have I2:=kH hi2
 clear hi hi0 hi1 hi2
 go_enter Tryz.func27,Tryz.ntmps27
 go_wp2_with (at_make;refine wpList_make_full _ rfl _ _ _ rfl w.heap.size 109 i0 _ 4 Tryz.underlying41 I.out I0.out I1.out _ _ _ _ n rfl rfl rfl rfl (by rw[I2.out];omega) (by unfold maxLen;omega) (Nat.le_refl _) ?_;intro w1 hO hgw)
 have hb1:Below w.heap.size w w1:=(Below.refl w.heap.size w).grown (row:=none) hgw (Nat.le_refl _) (by simp)
 have hs1:w.heap.size<w1.heap.size:=(own_base hO _ rfl).2
 have O1:FillO 109 4 GDNode.O w.heap.size w1 w.heap.size n 0 [] x:=FillO.made hO x
 replace O1:=kH O1
 clear hO hgw
 go_loopw [4] (fun i wr=>∃ (k:Nat) (ps:List (List Nat)),k<=n/\i=.int .i64 k/\Below w.heap.size w wr/\w.heap.size+1<=wr.heap.size/\Hid (FillO 109 4 GDNode.O w.heap.size wr w.heap.size n k ps x)/\Hid (ps.flatten.Nodup)/\Hid (∀b∈ps.flatten,w.heap.size+1<=b/\b<wr.heap.size)) (fun i _=>n-(intOf i).toNat)
 case atStart=>exact⟨0,[],by omega,rfl,hb1,by omega,O1,List.nodup_nil,fun b h=>by cases h⟩
 case round=>
  clear hs1 hb1 O1
  obtain⟨k,ps,hk,rfl,hw,hz,hO,hN,hL⟩:=hrel
  by_cases hlt:k<n
  ·obtain⟨b1,o1,p,s1,_,rfl,P1,q1,r1⟩:=(hh.below GDNode.good hw).get X1 hlt
   have Q1:=q1
   obtain⟨s0,rfl,_,_⟩:=q1
   have R1:wr.cell? ⟨b1,o1+k*4,none⟩=some (.int .i64 p.kind)/\wr.cell? ⟨b1,o1+k*4+1,none⟩=some (.int .i64 p.n)/\wr.cell? ⟨b1,o1+k*4+2,none⟩=some (.string p.s)/\wr.cell? ⟨b1,o1+k*4+3,none⟩=some (s0):=⟨by simpa using r1 0 _ rfl,by simpa using r1 1 _ rfl,by simpa using r1 2 _ rfl,by simpa using r1 3 _ rfl⟩
   clear r1
   go_wp2_with (go_at_call 58;refine(toDNode_o p _ _ (hle P1.out) _ Q1).mono ?_;rintro e w2 ⟨r2,p2,rfl,q3,hnd2,hfr2,hb2⟩;have Q3:=kH q3;obtain⟨t0,rfl,hwf0,g0⟩:=q3;obtain⟨at0,ct0,rfl⟩:=g0.form;clear g0;have hA2:=((hO.out.below GDNode.ok hb2).arr (by omega)).2.2;have hO2:=kH (hO.out.below GDNode.ok hb2);have hw2:=hw.trans (hb2.mono hw.size);have hz2:=hb2.size;have hl2:=GDNode.ok.lt Q3.out;replace hl2:=kH hl2;replace hfr2:=kH hfr2;replace hnd2:=kH hnd2;clear hb2 hw hO R1;obtain⟨d0,e0,f0⟩:=hA2 (k*4) (by omega);obtain⟨d1,e1,f1⟩:=hA2 (k*4+1) (by omega);obtain⟨d2,e2,f2⟩:=hA2 (k*4+2) (by omega);obtain⟨d3,e3,f3⟩:=hA2 (k*4+3) (by omega))
   have hl2' : ∀b∈(p2:List Nat),b<w2.heap.size:=hl2.out
   have hf2' : ∀b∈(p2:List Nat),wr.heap.size<=b:=hfr2.out
   go_roundw
   case rel=>exact⟨k+1,ps ++ [p2],by omega,by go_num,hw2.trans (below_storeRow w.heap.size [.int .i64 p.kind,.int .i64 p.n,.string p.s,.slice at0 p.kids.length ct0] w2 (k*4)),Nat.le_trans hz (Nat.le_trans hz2 (Nat.le_of_eq (size_storeRow w.heap.size [.int .i64 p.kind,.int .i64 p.n,.string p.s,.slice at0 p.kids.length ct0] w2 (k*4)).symm)),
    (hO2.out.step GDNode.ok hlt (off:=k*4) (r:=[.int .i64 p.kind,.int .i64 p.n,.string p.s,.slice at0 p.kids.length ct0]) (by omega) P1.out rfl Q3.out (fun h=>by have:=hL.out _ h;omega) (fun h=>by have:=hf2' _ h;omega)),
    by show(ps ++ [p2]).flatten.Nodup;rw[List.flatten_append,List.flatten_singleton];exact List.nodup_append.2 ⟨hN.out,hnd2.out,fun b h b2 h2 e=>by subst e;have:=hL.out _ h;have:=hf2' _ h2;omega⟩,
    fun b h=>by
     rw[List.flatten_append,List.flatten_singleton]at h
     rcases List.mem_append.1 h with h|h
     ·have:=hL.out _ h;exact⟨this.1,Nat.lt_of_lt_of_le this.2 (Nat.le_trans hz2 (Nat.le_of_eq (size_storeRow w.heap.size [.int .i64 p.kind,.int .i64 p.n,.string p.s,.slice at0 p.kids.length ct0] w2 (k*4)).symm))⟩
     ·have h1:=hf2' _ h;have h2:=hl2' _ h;exact⟨by omega,Nat.lt_of_lt_of_le h2 (Nat.le_of_eq (size_storeRow w.heap.size [.int .i64 p.kind,.int .i64 p.n,.string p.s,.slice at0 p.kids.length ct0] w2 (k*4)).symm)⟩⟩
   case measure=>simp[intOf];omega
  ·go_wp2
   go_returns
   obtain rfl:k=n:=by omega
   exact⟨_,_,rfl,(hO.out.full X1.out).slO,List.nodup_cons.2 ⟨fun h=>by have:=(hL.out _ h).1;dsimp only at this;omega,hN.out⟩,fun b h=>by
    rcases List.mem_cons.1 h with h|h
    ·dsimp only at h;omega
    ·have:=(hL.out _ h).1;omega,hw⟩
theorem toData_o (x:GData) (r:List Value) (lo:Nat) (hl:x.bulk<=1048576) (w:World) (hx:GData.R lo w r x) :
  Calls Tryz.prog 8 #[.agg r.toArray] w fun e w'=>∃r' bs,e=.returned (.agg r'.toArray)/\GData.O bs w' r' x/\bs.Nodup/\(∀b∈bs,w.heap.size<=b)/\Below w.heap.size w w':=by
 obtain⟨x0⟩:=x
 obtain⟨u0,rfl,_,a0⟩:=hx
 dsimp only at *
 have z0:=bulkS_nonneg GDNode.bulk_nonneg x0
 simp only[GData.bulk]at hl
 go_enter Tryz.func8,Tryz.ntmps8
 go_wp2_with (first|(go_at_call 27;((with_reducible refine(toDNodeS_o x0 u0 lo ?_ _ ?_).mono ?_);omega;exact a0.below GDNode.good (by go_grown);rintro e w1 ⟨v0,p0,rfl,c0,d0,fr0,hb⟩;have hf0:∀b∈p0,w.heap.size+3<=b:=(fun b h=>Nat.le_trans (by(try simp only[World.size_alloc,World.size_setCell,World.size_drew]);omega) (fr0 b h));obtain⟨av0,cv0,rfl⟩:=c0.form;clear fr0;have hw:Below w.heap.size w w1:=Below.trans (by go_grown) (hb.mono (by go_grown));obtain⟨hc,hf⟩:=bcell hb;have hz:=hw.size;have hz1:=hb.size;have hs0:w.heap.size<w1.heap.size:=(by have h:=hz1;(try simp only[World.size_alloc,World.size_setCell,World.size_drew]at h);omega);have hs1:w.heap.size+1<w1.heap.size:=(by have h:=hz1;(try simp only[World.size_alloc,World.size_setCell,World.size_drew]at h);omega);have hs2:w.heap.size+1+1<w1.heap.size:=(by have h:=hz1;(try simp only[World.size_alloc,World.size_setCell,World.size_drew]at h);omega);clear hb)))
 refine bodyPost_ret (v:=.agg #[.slice av0 x0.length cv0]) (by simp[results,Tryz.results8,go_sem, *]) rfl ?_
 refine⟨[.slice av0 x0.length cv0],p0,rfl,⟨_,rfl,trivial,(c0.kept GDNode.ok (S:=fun b=>b<w.heap.size+3) (by repeat' (first|with_reducible exact Kept.refl _ _|with_reducible refine Kept.set ?_ ?_ _|(dsimp only;omega))) (fun b h hs=>by have:=hf0 b h;omega))⟩,d0,fun b h=>(by have:=hf0 b h;omega),by go_grown⟩
end Go.Proofs.YtkikkfjmggobpaaGreat
