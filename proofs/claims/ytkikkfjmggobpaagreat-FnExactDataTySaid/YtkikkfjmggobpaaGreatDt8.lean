/- Parts of the proof, merged: FtPNode, FtPat, FtIns, Copy, Copy2, Copy3, DNode, FindDNode, Ends, Ends2, Ends3. -/
import Derived.OwnWalk
import Derived.Deep.RegionHeld3
import Derived.Test.YtkikkfjmggobpaaGreatDt7
namespace Go.Proofs.YtkikkfjmggobpaaGreat
open Go.RowKit
set_option maxRecDepth 100000
set_option maxHeartbeats 16000000
set_option linter.unusedVariables false
set_option linter.unusedSimpArgs false
attribute [local go_sem] Ext.cell
theorem toPNode_o (x:GPNode) (r:List Value) (lo:Nat) (hl:x.bulk<=1048576) (w:World) (hx:GPNode.R lo w r x) :
  Calls Tryz.prog 181 #[.agg r.toArray] w fun e w'=>∃r' bs,e=.returned (.agg r'.toArray)/\GPNode.O bs w' r' x/\bs.Nodup/\(∀b∈bs,w.heap.size<=b)/\Below w.heap.size w w':=by
 obtain⟨x0,x1,x2,x3⟩:=x
 obtain⟨u0,rfl,⟨wx0,wx1,wx2⟩,a0⟩:=hx
 dsimp only at *
 have z2:=size_nonneg x2
 have z3:=length_nonneg x3
 simp only[GPNode.bulk]at hl
 go_enter Tryz.func181,Tryz.ntmps181
 go_wp2_with (first|(go_at_call 99;((with_reducible refine(toIntS_o x3 u0 lo ?_ _ ?_).mono ?_);omega;exact a0.below IntR.good (by go_grown);rintro e w1 ⟨v0,p0,rfl,c0,d0,fr0,hb⟩;have hf0:∀b∈p0,w.heap.size+3<=b:=(fun b h=>Nat.le_trans (by(try simp only[World.size_alloc,World.size_setCell,World.size_drew]);omega) (fr0 b h));obtain⟨av0,cv0,rfl⟩:=c0.form;clear fr0;have hw:Below w.heap.size w w1:=Below.trans (by go_grown) (hb.mono (by go_grown));obtain⟨hc,hf⟩:=bcell hb;have hz:=hw.size;have hz1:=hb.size;have hs0:w.heap.size<w1.heap.size:=(by have h:=hz1;(try simp only[World.size_alloc,World.size_setCell,World.size_drew]at h);omega);have hs1:w.heap.size+1<w1.heap.size:=(by have h:=hz1;(try simp only[World.size_alloc,World.size_setCell,World.size_drew]at h);omega);have hs2:w.heap.size+1+1<w1.heap.size:=(by have h:=hz1;(try simp only[World.size_alloc,World.size_setCell,World.size_drew]at h);omega);clear hb)))
 refine bodyPost_ret (v:=.agg #[.int .i64 x0,.int .i64 x1,.string x2,.slice av0 x3.length cv0]) (by simp[results,Tryz.results181,go_sem, *]) rfl ?_
 refine⟨[.int .i64 x0,.int .i64 x1,.string x2,.slice av0 x3.length cv0],p0,rfl,⟨_,rfl,⟨wx0,wx1,wx2⟩,(c0.kept (flatO_ok flatInt) (S:=fun b=>b<w.heap.size+3) (by repeat' (first|with_reducible exact Kept.refl _ _|with_reducible refine Kept.set ?_ ?_ _|(dsimp only;omega))) (fun b h hs=>by have:=hf0 b h;omega))⟩,d0,fun b h=>(by have:=hf0 b h;omega),by go_grown⟩
theorem toPNodeS_o (x:List GPNode) (u:Value) (lo:Nat) (hlen:bulkS GPNode.bulk x<=1048576) (w:World) (hx:Sl GPNode.R 4 lo w u x) :
  Calls Tryz.prog 168 #[u] w fun e w'=>∃v bs,e=.returned v/\SlO 220 4 GPNode.O bs w' v x/\bs.Nodup/\(∀b∈bs,w.heap.size<=b)/\Below w.heap.size w w':=by
 obtain⟨a1,c1,rfl,l1,m1,hh⟩:=hx
 obtain⟨n,hn⟩ : ∃n,n=x.length:=⟨_,rfl⟩
 have hlen1:x.length<=1048576:=by have:=length_le_bulkS (f:=GPNode.bulk) GPNode.bulk_nonneg x;omega
 have hle:∀ {k:Nat} {p:GPNode},x[k]? = some p->GPNode.bulk p<=1048576:=fun hp=>by have:=le_bulkS (f:=GPNode.bulk) GPNode.bulk_nonneg hp;omega
 clear hlen
 rw[<- hn]at l1 hlen1 ⊢
 have X1:=kH hn
 clear hn
 obtain⟨i0,hi,hi0,hi1,hi2⟩:=info_parts info_PNodeS
 have I:=kH hi;have I0:=kH hi0;have I1:=kH hi1;have I2:=kH hi2
 clear hi hi0 hi1 hi2
 go_enter Tryz.func168,Tryz.ntmps168
 go_wp2_with (at_make;refine wpList_make_full _ rfl _ _ _ rfl w.heap.size 220 i0 _ 4 Tryz.underlying175 I.out I0.out I1.out _ _ _ _ n rfl rfl rfl rfl (by rw[I2.out];omega) (by unfold maxLen;omega) (Nat.le_refl _) ?_;intro w1 hO hgw)
 have hb1:Below w.heap.size w w1:=(Below.refl w.heap.size w).grown (row:=none) hgw (Nat.le_refl _) (by simp)
 have hs1:w.heap.size<w1.heap.size:=(own_base hO _ rfl).2
 have O1:FillO 220 4 GPNode.O w.heap.size w1 w.heap.size n 0 [] x:=FillO.made hO x
 replace O1:=kH O1
 clear hO hgw
 go_loopw [4] (fun i wr=>∃ (k:Nat) (ps:List (List Nat)),k<=n/\i=.int .i64 k/\Below w.heap.size w wr/\w.heap.size+1<=wr.heap.size/\Hid (FillO 220 4 GPNode.O w.heap.size wr w.heap.size n k ps x)/\Hid (ps.flatten.Nodup)/\Hid (∀b∈ps.flatten,w.heap.size+1<=b/\b<wr.heap.size)) (fun i _=>n-(intOf i).toNat)
 case atStart=>exact⟨0,[],by omega,rfl,hb1,by omega,O1,List.nodup_nil,fun b h=>by cases h⟩
 case round=>
  clear hs1 hb1 O1
  obtain⟨k,ps,hk,rfl,hw,hz,hO,hN,hL⟩:=hrel
  by_cases hlt:k<n
  ·obtain⟨b1,o1,p,s1,_,rfl,P1,q1,r1⟩:=(hh.below GPNode.good hw).get X1 hlt
   have Q1:=q1
   obtain⟨s0,rfl,_,_⟩:=q1
   have R1:wr.cell? ⟨b1,o1+k*4,none⟩=some (.int .i64 p.kind)/\wr.cell? ⟨b1,o1+k*4+1,none⟩=some (.int .i64 p.n)/\wr.cell? ⟨b1,o1+k*4+2,none⟩=some (.string p.s)/\wr.cell? ⟨b1,o1+k*4+3,none⟩=some (s0):=⟨by simpa using r1 0 _ rfl,by simpa using r1 1 _ rfl,by simpa using r1 2 _ rfl,by simpa using r1 3 _ rfl⟩
   clear r1
   go_wp2_with (go_at_call 181;refine(toPNode_o p _ _ (hle P1.out) _ Q1).mono ?_;rintro e w2 ⟨r2,p2,rfl,q3,hnd2,hfr2,hb2⟩;have Q3:=kH q3;obtain⟨t0,rfl,hwf0,g0⟩:=q3;obtain⟨at0,ct0,rfl⟩:=g0.form;clear g0;have hA2:=((hO.out.below GPNode.ok hb2).arr (by omega)).2.2;have hO2:=kH (hO.out.below GPNode.ok hb2);have hw2:=hw.trans (hb2.mono hw.size);have hz2:=hb2.size;have hl2:=GPNode.ok.lt Q3.out;replace hl2:=kH hl2;replace hfr2:=kH hfr2;replace hnd2:=kH hnd2;clear hb2 hw hO R1;obtain⟨d0,e0,f0⟩:=hA2 (k*4) (by omega);obtain⟨d1,e1,f1⟩:=hA2 (k*4+1) (by omega);obtain⟨d2,e2,f2⟩:=hA2 (k*4+2) (by omega);obtain⟨d3,e3,f3⟩:=hA2 (k*4+3) (by omega))
   have hl2' : ∀b∈(p2:List Nat),b<w2.heap.size:=hl2.out
   have hf2' : ∀b∈(p2:List Nat),wr.heap.size<=b:=hfr2.out
   go_roundw
   case rel=>exact⟨k+1,ps ++ [p2],by omega,by go_num,hw2.trans (below_storeRow w.heap.size [.int .i64 p.kind,.int .i64 p.n,.string p.s,.slice at0 p.kids.length ct0] w2 (k*4)),Nat.le_trans hz (Nat.le_trans hz2 (Nat.le_of_eq (size_storeRow w.heap.size [.int .i64 p.kind,.int .i64 p.n,.string p.s,.slice at0 p.kids.length ct0] w2 (k*4)).symm)),
    (hO2.out.step GPNode.ok hlt (off:=k*4) (r:=[.int .i64 p.kind,.int .i64 p.n,.string p.s,.slice at0 p.kids.length ct0]) (by omega) P1.out rfl Q3.out (fun h=>by have:=hL.out _ h;omega) (fun h=>by have:=hf2' _ h;omega)),
    by show(ps ++ [p2]).flatten.Nodup;rw[List.flatten_append,List.flatten_singleton];exact List.nodup_append.2 ⟨hN.out,hnd2.out,fun b h b2 h2 e=>by subst e;have:=hL.out _ h;have:=hf2' _ h2;omega⟩,
    fun b h=>by
     rw[List.flatten_append,List.flatten_singleton]at h
     rcases List.mem_append.1 h with h|h
     ·have:=hL.out _ h;exact⟨this.1,Nat.lt_of_lt_of_le this.2 (Nat.le_trans hz2 (Nat.le_of_eq (size_storeRow w.heap.size [.int .i64 p.kind,.int .i64 p.n,.string p.s,.slice at0 p.kids.length ct0] w2 (k*4)).symm))⟩
     ·have h1:=hf2' _ h;have h2:=hl2' _ h;exact⟨by omega,Nat.lt_of_lt_of_le h2 (Nat.le_of_eq (size_storeRow w.heap.size [.int .i64 p.kind,.int .i64 p.n,.string p.s,.slice at0 p.kids.length ct0] w2 (k*4)).symm)⟩⟩
   case measure=>simp[intOf];omega
  ·go_wp2
   go_returns
   obtain rfl:k=n:=by omega
   exact⟨_,_,rfl,(hO.out.full X1.out).slO,List.nodup_cons.2 ⟨fun h=>by have:=(hL.out _ h).1;dsimp only at this;omega,hN.out⟩,fun b h=>by
    rcases List.mem_cons.1 h with h|h
    ·dsimp only at h;omega
    ·have:=(hL.out _ h).1;omega,hw⟩
theorem toPat_o (x:GPat) (r:List Value) (lo:Nat) (hl:x.bulk<=1048576) (w:World) (hx:GPat.R lo w r x) :
  Calls Tryz.prog 140 #[.agg r.toArray] w fun e w'=>∃r' bs,e=.returned (.agg r'.toArray)/\GPat.O bs w' r' x/\bs.Nodup/\(∀b∈bs,w.heap.size<=b)/\Below w.heap.size w w':=by
 obtain⟨x0⟩:=x
 obtain⟨u0,rfl,_,a0⟩:=hx
 dsimp only at *
 have z0:=bulkS_nonneg GPNode.bulk_nonneg x0
 simp only[GPat.bulk]at hl
 go_enter Tryz.func140,Tryz.ntmps140
 go_wp2_with (first|(go_at_call 168;((with_reducible refine(toPNodeS_o x0 u0 lo ?_ _ ?_).mono ?_);omega;exact a0.below GPNode.good (by go_grown);rintro e w1 ⟨v0,p0,rfl,c0,d0,fr0,hb⟩;have hf0:∀b∈p0,w.heap.size+3<=b:=(fun b h=>Nat.le_trans (by(try simp only[World.size_alloc,World.size_setCell,World.size_drew]);omega) (fr0 b h));obtain⟨av0,cv0,rfl⟩:=c0.form;clear fr0;have hw:Below w.heap.size w w1:=Below.trans (by go_grown) (hb.mono (by go_grown));obtain⟨hc,hf⟩:=bcell hb;have hz:=hw.size;have hz1:=hb.size;have hs0:w.heap.size<w1.heap.size:=(by have h:=hz1;(try simp only[World.size_alloc,World.size_setCell,World.size_drew]at h);omega);have hs1:w.heap.size+1<w1.heap.size:=(by have h:=hz1;(try simp only[World.size_alloc,World.size_setCell,World.size_drew]at h);omega);have hs2:w.heap.size+1+1<w1.heap.size:=(by have h:=hz1;(try simp only[World.size_alloc,World.size_setCell,World.size_drew]at h);omega);clear hb)))
 refine bodyPost_ret (v:=.agg #[.slice av0 x0.length cv0]) (by simp[results,Tryz.results140,go_sem, *]) rfl ?_
 refine⟨[.slice av0 x0.length cv0],p0,rfl,⟨_,rfl,trivial,(c0.kept GPNode.ok (S:=fun b=>b<w.heap.size+3) (by repeat' (first|with_reducible exact Kept.refl _ _|with_reducible refine Kept.set ?_ ?_ _|(dsimp only;omega))) (fun b h hs=>by have:=hf0 b h;omega))⟩,d0,fun b h=>(by have:=hf0 b h;omega),by go_grown⟩
theorem toPatS_o (x:List GPat) (u:Value) (lo:Nat) (hlen:bulkS GPat.bulk x<=1048576) (w:World) (hx:Sl GPat.R 1 lo w u x) :
  Calls Tryz.prog 100 #[u] w fun e w'=>∃v bs,e=.returned v/\SlO 177 1 GPat.O bs w' v x/\bs.Nodup/\(∀b∈bs,w.heap.size<=b)/\Below w.heap.size w w':=by
 obtain⟨a1,c1,rfl,l1,m1,hh⟩:=hx
 obtain⟨n,hn⟩ : ∃n,n=x.length:=⟨_,rfl⟩
 have hlen1:x.length<=1048576:=by have:=length_le_bulkS (f:=GPat.bulk) GPat.bulk_nonneg x;omega
 have hle:∀ {k:Nat} {p:GPat},x[k]? = some p->GPat.bulk p<=1048576:=fun hp=>by have:=le_bulkS (f:=GPat.bulk) GPat.bulk_nonneg hp;omega
 clear hlen
 rw[<- hn]at l1 hlen1 ⊢
 have X1:=kH hn
 clear hn
 obtain⟨i0,hi,hi0,hi1,hi2⟩:=info_parts info_PatS
 have I:=kH hi;have I0:=kH hi0;have I1:=kH hi1;have I2:=kH hi2
 clear hi hi0 hi1 hi2
 go_enter Tryz.func100,Tryz.ntmps100
 go_wp2_with (at_make;refine wpList_make_full _ rfl _ _ _ rfl w.heap.size 177 i0 _ 1 Tryz.underlying121 I.out I0.out I1.out _ _ _ _ n rfl rfl rfl rfl (by rw[I2.out];omega) (by unfold maxLen;omega) (Nat.le_refl _) ?_;intro w1 hO hgw)
 have hb1:Below w.heap.size w w1:=(Below.refl w.heap.size w).grown (row:=none) hgw (Nat.le_refl _) (by simp)
 have hs1:w.heap.size<w1.heap.size:=(own_base hO _ rfl).2
 have O1:FillO 177 1 GPat.O w.heap.size w1 w.heap.size n 0 [] x:=FillO.made hO x
 replace O1:=kH O1
 clear hO hgw
 go_loopw [4] (fun i wr=>∃ (k:Nat) (ps:List (List Nat)),k<=n/\i=.int .i64 k/\Below w.heap.size w wr/\w.heap.size+1<=wr.heap.size/\Hid (FillO 177 1 GPat.O w.heap.size wr w.heap.size n k ps x)/\Hid (ps.flatten.Nodup)/\Hid (∀b∈ps.flatten,w.heap.size+1<=b/\b<wr.heap.size)) (fun i _=>n-(intOf i).toNat)
 case atStart=>exact⟨0,[],by omega,rfl,hb1,by omega,O1,List.nodup_nil,fun b h=>by cases h⟩
 case round=>
  clear hs1 hb1 O1
  obtain⟨k,ps,hk,rfl,hw,hz,hO,hN,hL⟩:=hrel
  by_cases hlt:k<n
  ·obtain⟨b1,o1,p,s1,_,rfl,P1,q1,r1⟩:=(hh.below GPat.good hw).get X1 hlt
   have Q1:=q1
   obtain⟨s0,rfl,_,_⟩:=q1
   have R1:wr.cell? ⟨b1,o1+k,none⟩=some (s0):=(by simpa using r1 0 _ rfl)
   clear r1
   go_wp2_with (go_at_call 140;refine(toPat_o p _ _ (hle P1.out) _ Q1).mono ?_;rintro e w2 ⟨r2,p2,rfl,q3,hnd2,hfr2,hb2⟩;have Q3:=kH q3;obtain⟨t0,rfl,hwf0,g0⟩:=q3;obtain⟨at0,ct0,rfl⟩:=g0.form;clear g0;have hA2:=((hO.out.below GPat.ok hb2).arr (by omega)).2.2;have hO2:=kH (hO.out.below GPat.ok hb2);have hw2:=hw.trans (hb2.mono hw.size);have hz2:=hb2.size;have hl2:=GPat.ok.lt Q3.out;replace hl2:=kH hl2;replace hfr2:=kH hfr2;replace hnd2:=kH hnd2;clear hb2 hw hO R1;obtain⟨d0,e0,f0⟩:=hA2 (k) (by omega))
   have hl2' : ∀b∈(p2:List Nat),b<w2.heap.size:=hl2.out
   have hf2' : ∀b∈(p2:List Nat),wr.heap.size<=b:=hfr2.out
   go_roundw
   case rel=>exact⟨k+1,ps ++ [p2],by omega,by go_num,hw2.trans (below_storeRow w.heap.size [.slice at0 p.nodes.length ct0] w2 (k)),Nat.le_trans hz (Nat.le_trans hz2 (Nat.le_of_eq (size_storeRow w.heap.size [.slice at0 p.nodes.length ct0] w2 (k)).symm)),
    (hO2.out.step GPat.ok hlt (off:=k) (r:=[.slice at0 p.nodes.length ct0]) (by omega) P1.out rfl Q3.out (fun h=>by have:=hL.out _ h;omega) (fun h=>by have:=hf2' _ h;omega)),
    by show(ps ++ [p2]).flatten.Nodup;rw[List.flatten_append,List.flatten_singleton];exact List.nodup_append.2 ⟨hN.out,hnd2.out,fun b h b2 h2 e=>by subst e;have:=hL.out _ h;have:=hf2' _ h2;omega⟩,
    fun b h=>by
     rw[List.flatten_append,List.flatten_singleton]at h
     rcases List.mem_append.1 h with h|h
     ·have:=hL.out _ h;exact⟨this.1,Nat.lt_of_lt_of_le this.2 (Nat.le_trans hz2 (Nat.le_of_eq (size_storeRow w.heap.size [.slice at0 p.nodes.length ct0] w2 (k)).symm))⟩
     ·have h1:=hf2' _ h;have h2:=hl2' _ h;exact⟨by omega,Nat.lt_of_lt_of_le h2 (Nat.le_of_eq (size_storeRow w.heap.size [.slice at0 p.nodes.length ct0] w2 (k)).symm)⟩⟩
   case measure=>simp[intOf];omega
  ·go_wp2
   go_returns
   obtain rfl:k=n:=by omega
   exact⟨_,_,rfl,(hO.out.full X1.out).slO,List.nodup_cons.2 ⟨fun h=>by have:=(hL.out _ h).1;dsimp only at this;omega,hN.out⟩,fun b h=>by
    rcases List.mem_cons.1 h with h|h
    ·dsimp only at h;omega
    ·have:=(hL.out _ h).1;omega,hw⟩
theorem OwnF.slO {α:Type} {R:Reading α} {sz:Nat} {f:α->List Value} {wf:α->Prop} {e:TypeId} {lo:Nat} {w:World} {v:Value} {xs:List α} (F:Flat R sz f wf) (h:OwnF e sz f wf lo w v xs) :
  ∃bs,SlO e sz (FlatO f wf) bs w v xs/\bs.Nodup/\∀b∈bs,lo<=b:=by
 have hp:(xs.map fun _=>([] : List Nat)).flatten=[]:=by
  induction xs with
  |nil=>rfl
  |cons x xs ih=>simp
 have hG:GrowO e sz (FlatO f wf) lo w v (xs.map fun _=>[]) xs:=⟨xs.map f,h.1,⟨by simp,by simp,fun r hr=>by obtain⟨x,_,rfl⟩:=List.mem_map.1 hr;exact F.len x,fun i p r x h1 h2 h3=>by
  rw[List.getElem?_map,h3]at h1 h2
  simp at h1 h2
  exact⟨by first|exact h1|exact h1.symm,by first|exact h2|exact h2.symm,h.2 x (List.mem_of_getElem? h3)⟩⟩⟩
 refine⟨_,hG.slO,?_,fun b hb=>?_⟩
 ·unfold fpO
  rw[hp,List.append_nil]
  cases v.ownBlock with
  |none=>exact List.nodup_nil
  |some g=>simp
 ·rw[mem_fpO,hp]at hb
  rcases hb with hb|hb
  ·exact(own_base h.1 b hb).1
  ·cases hb
def PRow:Type:=GPNode × Option Addr × Nat
def prow (p:PRow):List Value:=[.int .i64 p.1.kind,.int .i64 p.1.n,.string p.1.s,.slice p.2.1 p.1.kids.length p.2.2]
def pwf (p:PRow):Prop:=p.1.wf
def PatSmall (q:GPat):Prop:=q.nodes.length<=1048576/\∀x∈q.nodes,x.kids.length<=1048576
structure PSt (lo B:Nat) (w:World) (g cap n:Nat) (ps:List PRow) (j:Nat) (rows:List (List Value)) (pss:List (List Nat)):Prop where
 own:w.ownsRow lo 220 4 (.slice (some ⟨g,0,none⟩) n cap) n rows.flatten
 wide:∀r∈rows,r.length=4
 lr:rows.length=n
 done:RowsO GPNode.O 4 w pss (rows.take j) ((ps.take j).map (·.1))
 rest:∀i p,j<=i->ps[i]? = some p->rows[i]? = some (prow p)
 nd:pss.flatten.Nodup
 far:∀b∈pss.flatten,B<b
theorem PSt.start {lo B:Nat} {w:World} {g cap:Nat} {ps:List PRow} (h:OwnF 220 4 prow pwf lo w (.slice (some ⟨g,0,none⟩) ps.length cap) ps):PSt lo B w g cap ps.length ps 0 (ps.map prow) []:=
 ⟨h.1,fun r hr=>by obtain⟨x,_,rfl⟩:=List.mem_map.1 hr;rfl,by simp,RowsO.nil,fun i p _ hp=>by rw[List.getElem?_map,hp];rfl,List.nodup_nil,fun b hb=>by cases hb⟩
theorem PSt.below {lo B:Nat} {w w' : World} {g cap n:Nat} {ps:List PRow} {j:Nat} {rows:List (List Value)} {pss:List (List Nat)} (h:PSt lo B w g cap n ps j rows pss) (hb:Below w.heap.size w w'):PSt lo B w' g cap n ps j rows pss:=
 ⟨own_below h.own hb,h.wide,h.lr,h.done.below GPNode.ok hb,h.rest,h.nd,h.far⟩
theorem PSt.step {lo B:Nat} {w w' : World} {g cap n:Nat} {ps:List PRow} {j:Nat} {rows:List (List Value)} {pss:List (List Nat)} {p:PRow} {u:Value} {bs:List Nat} (h:PSt lo B w g cap n ps j rows pss) (hp:ps[j]? = some p) (hwf:pwf p)
  (hM:MidO 220 4 lo w' g cap n rows j ((prow p).set 3 u)) (hK:Kept (· = g) w w') (hg:g<=B) (hS:SlO 3 1 (FlatO intRow I64) bs w' u p.1.kids) (hnd:bs.Nodup) (hfar:∀b∈bs,w.heap.size<=b) (hB:B<w.heap.size) :
  PSt lo B w' g cap n ps (j+1) (rows.set j ((prow p).set 3 u)) (pss ++ [bs]):=by
 have hj:=hM.hj
 refine⟨hM.own,fun r hr=>?_,by rw[List.length_set];exact h.lr,?_,fun i q hi hq=>?_,?_,fun b hb=>?_⟩
 ·rcases List.mem_or_eq_of_mem_set hr with h1|h1
  ·exact h.wide r h1
  ·rw[h1];rfl
 ·have e1:(rows.set j ((prow p).set 3 u)).take (j+1)=rows.take j ++ [(prow p).set 3 u]:=by
   rw[List.take_add_one,List.getElem?_set_self (by rw[h.lr];exact hj),List.take_set_of_le (Nat.le_refl _)]
   rfl
  have e2:(ps.take (j+1)).map (·.1)=(ps.take j).map (·.1) ++ [p.1]:=by rw[take_snoc' hp,List.map_append];rfl
  rw[e1,e2]
  exact(h.done.kept GPNode.ok hK (fun b hb e=>by have:=h.far b hb;omega)).push rfl ⟨u,rfl,hwf,hS⟩
 ·rw[List.getElem?_set_ne (by omega)]
  exact h.rest i q (by omega) hq
 ·rw[List.flatten_append,List.flatten_singleton]
  exact List.nodup_append.2 ⟨h.nd,hnd,fun b h1 b2 h2 e=>by subst e;have:=h.done.lt GPNode.ok _ h1;have:=hfar _ h2;omega⟩
 ·rw[List.flatten_append,List.flatten_singleton]at hb
  rcases List.mem_append.1 hb with h1|h1
  ·exact h.far b h1
  ·have:=hfar b h1;omega
theorem PSt.full {lo B:Nat} {w:World} {g cap n:Nat} {ps:List PRow} {rows:List (List Value)} {pss:List (List Nat)} (h:PSt lo B w g cap n ps n rows pss) (hn:n=ps.length) (hg:g<=B) (hlo:lo<=B) :
  ∃bs,SlO 220 4 GPNode.O bs w (.slice (some ⟨g,0,none⟩) n cap) (ps.map (·.1))/\bs.Nodup/\∀b∈bs,lo<=b:=by
 have h1:=h.done
 rw[List.take_of_length_le (by rw[h.lr];exact Nat.le_refl _),List.take_of_length_le (by omega)]at h1
 have hG:GrowO 220 4 GPNode.O lo w (.slice (some ⟨g,0,none⟩) n cap) pss (ps.map (·.1)):=⟨rows,by rw[List.length_map,<- hn];exact h.own,h1⟩
 have h2:=(own_base h.own g rfl).1
 refine⟨_,hG.slO,?_,fun b hb=>?_⟩
 ·rw[fpO_slice]
  exact List.nodup_cons.2 ⟨fun hb=>by have:=h.far g hb;omega,h.nd⟩
 ·rw[fpO_slice]at hb
  rcases List.mem_cons.1 hb with h3|h3
  ·omega
  ·have:=h.far b h3;omega
theorem GrowO.push {α:Type} {O:FootR α} {sz:Nat} {e:TypeId} {lo n:Nat} {w:World} {v:Value} {ps:List (List Nat)} {rows:List (List Value)} {xs:List α} {p:List Nat} {r:List Value} {x:α}
  (h:RowsO O sz w ps rows xs) (hn:n=xs.length) (hown:w.ownsRow lo e sz v (n+1) (rows.flatten++r)) (hr:r.length=sz) (ho:O p w r x):GrowO e sz O lo w v (ps ++ [p]) (xs ++ [x]):=by
 subst hn
 exact⟨rows ++ [r],by rw[List.flatten_append,List.flatten_singleton,List.length_append];exact hown,h.push hr ho⟩
theorem fpO_push {v:Value} {g n cap s0 s1:Nat} {ps:List (List Nat)} {bs:List Nat} (hnd:(fpO v ps).Nodup) (hlt:∀b∈fpO v ps,b<s0) (hb:bs.Nodup) (hb0:∀b∈bs,s0<=b) (hb1:∀b∈bs,b<s1) (hs:s0<=s1) (hat:v.ownBlock=some g\/g=s1) :
  (fpO (.slice (some ⟨g,0,none⟩) n cap) (ps ++ [bs])).Nodup:=by
 rw[fpO_slice,List.flatten_append,List.flatten_singleton,List.nodup_cons]
 have h1:ps.flatten.Nodup:=by unfold fpO at hnd;exact(List.nodup_append.1 hnd).2.1
 refine⟨fun h=>?_,List.nodup_append.2 ⟨h1,hb,fun b h2 b2 h3 e=>by subst e;have:=hlt b (mem_fpO.2 (.inr h2));have:=hb0 b h3;omega⟩⟩
 rcases hat with hv|rfl
 ·have h3:=hlt g (mem_fpO.2 (.inl hv))
  rcases List.mem_append.1 h with h|h
  ·unfold fpO at hnd
   exact(List.nodup_append.1 hnd).2.2 g (by rw[hv];simp) g h rfl
  ·have:=hb0 g h;omega
 ·rcases List.mem_append.1 h with h|h
  ·have:=hlt g (mem_fpO.2 (.inr h));omega
  ·have:=hb1 g h;omega
def kindAt (l:List GDNode) (k:Int):Int:=if 0<=k then (l[k.toNat]?.map (·.kind)).getD 0 else 0
def pairOf (l:List GDNode) (ks:List Int):Bool:=match ks with
 |[k]=>kindAt l k == 5
 |_=>false
def nodeOk (l:List GDNode) (x:GDNode):Bool:=
 if x.kind=3 then ((x.kids.length:Int) == 0)&&(x.s.toList.isEmpty&&decide (-4611686018427387904<=x.n/\x.n<=4611686018427387903))
 else if x.kind=2 then ((x.kids.length:Int) == 0)&&(x.n == 0)
 else if x.kind=6 then ((x.kids.length:Int) == 0)&&((x.n == 0)&&x.s.toList.isEmpty)
 else if x.kind=5 then ((x.kids.length:Int) == 2)&&((x.n == 0)&&x.s.toList.isEmpty)
 else if x.kind=4 then (x.n == 0)&&conShape x.s x.kids.length (pairOf l x.kids)
 else false
theorem dataNodeOk_flat (kd nn:Int) (s:ByteArray) (ka da:Option Addr) (m kc dn dc:Nat) (w:World) (hk:kd≠4) (hm:m<=9223372036854775807) (l:List GDNode) (ks:List Int) (hl:ks.length=m) :
  Calls Tryz.prog 71 #[.agg #[.slice da dn dc],.agg #[.int .i64 kd,.int .i64 nn,.string s,.slice ka m kc]] w fun e w'=>e=.returned (.bool (nodeOk l ⟨kd,nn,s,ks⟩))/\Below w.heap.size w w':=by
 unfold nodeOk
 dsimp only
 rw[hl,if_neg hk]
 clear hl
 by_cases h3:kd=3
 ·subst h3
  cases e0:((m:Int) == 0)<;>cases e1:s.toList.isEmpty
  all_goals
   go_enter Tryz.func71,Tryz.ntmps71
   go_wp2_with (go_at_call 66;((with_reducible refine(within_c _ _ _ _).mono ?_);rintro e w1 ⟨rfl,rfl⟩))
   go_returns
   exact⟨by simp,by go_grown⟩
 by_cases h2:kd=2
 ·subst h2
  cases e0:((m:Int) == 0)<;>cases e1:(nn == 0)
  all_goals
   go_enter Tryz.func71,Tryz.ntmps71
   go_wp2_with fail
   go_returns
   exact⟨by simp,by go_grown⟩
 by_cases h6:kd=6
 ·subst h6
  cases e0:((m:Int) == 0)<;>cases e1:(nn == 0)<;>cases e2:s.toList.isEmpty
  all_goals
   go_enter Tryz.func71,Tryz.ntmps71
   go_wp2_with fail
   go_returns
   exact⟨by simp,by go_grown⟩
 by_cases h5:kd=5
 ·subst h5
  cases e0:((m:Int) == 2)<;>cases e1:(nn == 0)<;>cases e2:s.toList.isEmpty
  all_goals
   go_enter Tryz.func71,Tryz.ntmps71
   go_wp2_with fail
   go_returns
   exact⟨by simp,by go_grown⟩
 rw[if_neg h3,if_neg h2,if_neg h6,if_neg h5]
 have e3:(kd == 3)=false:=by simpa using h3
 have e2:(kd == 2)=false:=by simpa using h2
 have e6:(kd == 6)=false:=by simpa using h6
 have e5:(kd == 5)=false:=by simpa using h5
 have e4:(kd == 4)=false:=by simpa using hk
 clear h3 h2 h6 h5 hk
 go_enter Tryz.func71,Tryz.ntmps71
 go_wp2_with fail
 go_returns
 exact⟨rfl,by go_grown⟩
theorem dataNodeOk_con (x:GDNode) (hx4:x.kind=4) (hs:StrOk x.s) (d:GData) (hd:d.nodes.length<=1152921504606846976) (r1 r2:List Value) (lo1 lo2:Nat) (w:World) (hr1:GData.R lo1 w r1 d) (hr2:GDNode.R lo2 w r2 x)
  (hin:∀k,x.kids=[k]->0<=k/\k<d.nodes.length) :
  Calls Tryz.prog 71 #[.agg r1.toArray,.agg r2.toArray] w fun e w'=>e=.returned (.bool (nodeOk d.nodes x))/\Below w.heap.size w w':=by
 obtain⟨kd,nn,s,ks⟩:=x
 dsimp only at hx4
 subst hx4
 unfold nodeOk
 dsimp only at *
 rw[if_neg (by decide),if_neg (by decide),if_neg (by decide),if_neg (by decide),if_pos rfl]
 obtain⟨u0,rfl,-,a0⟩:=hr1
 obtain⟨v0,rfl,-,b0⟩:=hr2
 obtain⟨da,dc,rfl,dl,dm,a0⟩:=a0
 obtain⟨ka,kc,rfl,kl,km,b0⟩:=b0
 dsimp only at *
 by_cases hn:nn=0
 ·subst hn
  by_cases h1:ks.length=1
  ·obtain⟨k,rfl⟩ : ∃k,ks=[k]:=List.length_eq_one_iff.1 h1
   obtain⟨hk0,hk1⟩:=hin k rfl
   obtain⟨j,rfl⟩ : ∃j:Nat,k=j:=⟨k.toNat,by omega⟩
   obtain⟨b1,o1,k',s1,_,rfl,P1,⟨rfl,-⟩,q1⟩:=b0.get (k:=0) (kH rfl) (by simp)
   obtain rfl:(j:Int)=k':=by have:=P1.out;simpa using this
   obtain⟨b2,o2,y,s2,_,rfl,P2,hy,q2⟩:=a0.get (k:=j) (kH rfl) (by omega)
   obtain⟨y0,rfl,-,-⟩:=hy
   have e1:w.cell? ⟨b1,o1,none⟩=some (.int .i64 j):=by simpa using q1 0 _ rfl
   have e2:w.cell? ⟨b2,o2+j*4,none⟩=some (.int .i64 y.kind):=by simpa using q2 0 _ rfl
   have hp:pairOf d.nodes [(j:Int)]=(y.kind == 5):=by unfold pairOf kindAt;simp[P2.out]
   rw[hp]
   have hj:j<d.nodes.length:=by omega
   clear hp hin hk0 hk1 h1 a0 b0 q1 q2 P1 P2
   show Calls Tryz.prog 71 #[.agg #[.slice (some ⟨b2,o2,none⟩) d.nodes.length dc],.agg #[.int .i64 4,.int .i64 0,.string s,.slice (some ⟨b1,o1,none⟩) 1 kc]] w fun e w'=>e=.returned (.bool (conShape s 1 (y.kind == 5)))/\Below w.heap.size w w'
   have hc:=fun W=>conShape_c s 1 (y.kind == 5) hs W
   generalize d.nodes.length=n at *
   generalize y.kind=yk at *
   generalize conShape s 1 (yk == 5)=cs at *
   go_enter Tryz.func71,Tryz.ntmps71
   go_upto_region 1 with fail
   have D:RowAt (w.alloc (.cells #[.slice (some ⟨b2,o2,none⟩) n dc] 43)) (w.heap.size) 0 [.slice (some ⟨b2,o2,none⟩) n dc]:=RowAt.box w #[.slice (some ⟨b2,o2,none⟩) n dc] 43
   have D:=D.below (show Below (w.alloc (.cells #[.slice (some ⟨b2,o2,none⟩) n dc] 43)).heap.size (w.alloc (.cells #[.slice (some ⟨b2,o2,none⟩) n dc] 43)) ((w.alloc (.cells #[.slice (some ⟨b2,o2,none⟩) n dc] 43)).alloc (.cells #[.int .i64 4,.int .i64 0,.string s,.slice (some ⟨b1,o1,none⟩) 1 kc] 109)) by go_grown)
   have N:RowAt ((w.alloc (.cells #[.slice (some ⟨b2,o2,none⟩) n dc] 43)).alloc (.cells #[.int .i64 4,.int .i64 0,.string s,.slice (some ⟨b1,o1,none⟩) 1 kc] 109)) (w.heap.size+1) 0 [.int .i64 4,.int .i64 0,.string s,.slice (some ⟨b1,o1,none⟩) 1 kc]:=by have h:=RowAt.box (w.alloc (.cells #[.slice (some ⟨b2,o2,none⟩) n dc] 43)) #[.int .i64 4,.int .i64 0,.string s,.slice (some ⟨b1,o1,none⟩) 1 kc] 109;simp only[World.size_alloc]at h;exact h
   have hw:Below w.heap.size w ((w.alloc (.cells #[.slice (some ⟨b2,o2,none⟩) n dc] 43)).alloc (.cells #[.int .i64 4,.int .i64 0,.string s,.slice (some ⟨b1,o1,none⟩) 1 kc] 109)):=by go_grown
   generalize ((w.alloc (.cells #[.slice (some ⟨b2,o2,none⟩) n dc] 43)).alloc (.cells #[.int .i64 4,.int .i64 0,.string s,.slice (some ⟨b1,o1,none⟩) 1 kc] 109))=w0 at *
   have e1':=cell_below hw e1
   have e2':=cell_below hw e2
   have hb1':=World.block_lt_of_cell? _ _ e1'
   have hb2':=World.block_lt_of_cell? _ _ e2'
   dsimp only at hb1' hb2'
   clear e1 e2
   have d_0:=D.box1;have hsD:=bLt d_0;obtain⟨n_0,n_1,n_2,n_3⟩:=N.box4;have hsN:=bLt n_0
   go_upto_region 12 with fail
   (refine wp_region_ext_lit (by kernel_rfl) (by kernel_rfl) ?_;(repeat (any_goals (first|go_big_quiet_step ((first|(go_at_call 113;exact Calls.ext_same (hc _))))|quiet_step ((first|(go_at_call 113;exact Calls.ext_same (hc _))))|(refine wpQuiet_step (fun K hK=>?_);go_simp;split<;>(refine hK _ ?_;clear hK K)))));all_goals (refine wpQuiet_nil ?_;rintro w1 ⟨⟨w2,hb⟩,rfl⟩;have hw:=hw.trans (hb.mono hw.size);have D:=D.below hb;have d_0:=D.box1;have hsD:=bLt d_0;have N:=N.below hb;obtain⟨n_0,n_1,n_2,n_3⟩:=N.box4;have hsN:=bLt n_0;clear hb))
   all_goals go_wp2
   all_goals go_returns
   all_goals exact⟨rfl,hw⟩
  ·have hp:pairOf d.nodes ks=false:=by
    unfold pairOf
    match ks,h1 with
    |[],_=>rfl
    |[a],h=>exact absurd rfl h
    |a :: b :: c,_=>rfl
   rw[hp]
   show Calls Tryz.prog 71 #[.agg #[.slice da d.nodes.length dc],.agg #[.int .i64 4,.int .i64 0,.string s,.slice ka ks.length kc]] w fun e w'=>e=.returned (.bool (conShape s ks.length false))/\Below w.heap.size w w'
   have hc:=fun W=>conShape_c s ks.length false hs W
   generalize d.nodes.length=n at *
   have e1:((ks.length:Int) == 1)=false:=by simp;omega
   clear hp hin h1 a0 b0
   generalize ks.length=m at *
   generalize conShape s m false=cs at *
   go_enter Tryz.func71,Tryz.ntmps71
   go_upto_region 1 with fail
   have D:RowAt (w.alloc (.cells #[.slice da n dc] 43)) (w.heap.size) 0 [.slice da n dc]:=RowAt.box w #[.slice da n dc] 43
   have D:=D.below (show Below (w.alloc (.cells #[.slice da n dc] 43)).heap.size (w.alloc (.cells #[.slice da n dc] 43)) ((w.alloc (.cells #[.slice da n dc] 43)).alloc (.cells #[.int .i64 4,.int .i64 0,.string s,.slice ka m kc] 109)) by go_grown)
   have N:RowAt ((w.alloc (.cells #[.slice da n dc] 43)).alloc (.cells #[.int .i64 4,.int .i64 0,.string s,.slice ka m kc] 109)) (w.heap.size+1) 0 [.int .i64 4,.int .i64 0,.string s,.slice ka m kc]:=by have h:=RowAt.box (w.alloc (.cells #[.slice da n dc] 43)) #[.int .i64 4,.int .i64 0,.string s,.slice ka m kc] 109;simp only[World.size_alloc]at h;exact h
   have hw:Below w.heap.size w ((w.alloc (.cells #[.slice da n dc] 43)).alloc (.cells #[.int .i64 4,.int .i64 0,.string s,.slice ka m kc] 109)):=by go_grown
   generalize ((w.alloc (.cells #[.slice da n dc] 43)).alloc (.cells #[.int .i64 4,.int .i64 0,.string s,.slice ka m kc] 109))=w0 at *
   have d_0:=D.box1;have hsD:=bLt d_0;obtain⟨n_0,n_1,n_2,n_3⟩:=N.box4;have hsN:=bLt n_0
   go_upto_region 12 with fail
   (refine wp_region_ext_lit (by kernel_rfl) (by kernel_rfl) ?_;(repeat (any_goals (first|go_big_quiet_step ((first|(go_at_call 113;exact Calls.ext_same (hc _))))|quiet_step ((first|(go_at_call 113;exact Calls.ext_same (hc _))))|(refine wpQuiet_step (fun K hK=>?_);go_simp;split<;>(refine hK _ ?_;clear hK K)))));all_goals (refine wpQuiet_nil ?_;rintro w1 ⟨⟨w2,hb⟩,rfl⟩;have hw:=hw.trans (hb.mono hw.size);have D:=D.below hb;have d_0:=D.box1;have hsD:=bLt d_0;have N:=N.below hb;obtain⟨n_0,n_1,n_2,n_3⟩:=N.box4;have hsN:=bLt n_0;clear hb))
   all_goals go_wp2
   all_goals go_returns
   all_goals exact⟨rfl,hw⟩
 ·have en:(nn == 0)=false:=by simpa using hn
  rw[en]
  show Calls Tryz.prog 71 #[.agg #[.slice da d.nodes.length dc],.agg #[.int .i64 4,.int .i64 nn,.string s,.slice ka ks.length kc]] w fun e w'=>e=.returned (.bool false)/\Below w.heap.size w w'
  generalize d.nodes.length=n at *
  clear hin hn a0 b0
  generalize ks.length=m at *
  go_enter Tryz.func71,Tryz.ntmps71
  go_upto_region 1 with fail
  have D:RowAt (w.alloc (.cells #[.slice da n dc] 43)) (w.heap.size) 0 [.slice da n dc]:=RowAt.box w #[.slice da n dc] 43
  have D:=D.below (show Below (w.alloc (.cells #[.slice da n dc] 43)).heap.size (w.alloc (.cells #[.slice da n dc] 43)) ((w.alloc (.cells #[.slice da n dc] 43)).alloc (.cells #[.int .i64 4,.int .i64 nn,.string s,.slice ka m kc] 109)) by go_grown)
  have N:RowAt ((w.alloc (.cells #[.slice da n dc] 43)).alloc (.cells #[.int .i64 4,.int .i64 nn,.string s,.slice ka m kc] 109)) (w.heap.size+1) 0 [.int .i64 4,.int .i64 nn,.string s,.slice ka m kc]:=by have h:=RowAt.box (w.alloc (.cells #[.slice da n dc] 43)) #[.int .i64 4,.int .i64 nn,.string s,.slice ka m kc] 109;simp only[World.size_alloc]at h;exact h
  have hw:Below w.heap.size w ((w.alloc (.cells #[.slice da n dc] 43)).alloc (.cells #[.int .i64 4,.int .i64 nn,.string s,.slice ka m kc] 109)):=by go_grown
  generalize ((w.alloc (.cells #[.slice da n dc] 43)).alloc (.cells #[.int .i64 4,.int .i64 nn,.string s,.slice ka m kc] 109))=w0 at *
  have d_0:=D.box1;have hsD:=bLt d_0;obtain⟨n_0,n_1,n_2,n_3⟩:=N.box4;have hsN:=bLt n_0
  go_upto_region 12 with fail
  (refine wp_region_ext_lit (by kernel_rfl) (by kernel_rfl) ?_;(repeat (any_goals (first|go_big_quiet_step ((first|fail))|quiet_step ((first|fail))|(refine wpQuiet_step (fun K hK=>?_);go_simp;split<;>(refine hK _ ?_;clear hK K)))));all_goals (refine wpQuiet_nil ?_;rintro w1 ⟨⟨w2,hb⟩,rfl⟩;have hw:=hw.trans (hb.mono hw.size);have D:=D.below hb;have d_0:=D.box1;have hsD:=bLt d_0;have N:=N.below hb;obtain⟨n_0,n_1,n_2,n_3⟩:=N.box4;have hsN:=bLt n_0;clear hb))
  all_goals go_wp2
  all_goals go_returns
  all_goals exact⟨rfl,hw⟩
theorem dataNodeOk_c (x:GDNode) (hs:StrOk x.s) (d:GData) (hd:d.nodes.length<=1152921504606846976) (r1 r2:List Value) (lo1 lo2:Nat) (w:World) (hr1:GData.R lo1 w r1 d) (hr2:GDNode.R lo2 w r2 x)
  (hin:∀k∈x.kids,0<=k/\k<d.nodes.length) :
  Calls Tryz.prog 71 #[.agg r1.toArray,.agg r2.toArray] w fun e w'=>e=.returned (.bool (nodeOk d.nodes x))/\Below w.heap.size w w':=by
 by_cases h4:x.kind=4
 ·exact dataNodeOk_con x h4 hs d hd r1 r2 lo1 lo2 w hr1 hr2 fun k h=>hin k (by rw[h];simp)
 ·obtain⟨u0,rfl,-,a0⟩:=hr1
  obtain⟨v0,rfl,-,b0⟩:=hr2
  obtain⟨da,dc,rfl,dl,dm,a0⟩:=a0
  obtain⟨ka,kc,rfl,kl,km,b0⟩:=b0
  exact dataNodeOk_flat x.kind x.n x.s ka da x.kids.length kc d.nodes.length dc w h4 (by omega) d.nodes x.kids rfl
theorem indexFuncDNode_c (xs:List GDNode) (p:GDNode->Bool) (g:Nat) (lb:Array Value) (lo:Nat) (u:Value) (w:World) (hu:Sl GDNode.R 4 lo w u xs)
  (hp:∀ (i:Nat) x r W,xs[i]? = some x->Below w.heap.size w W->GDNode.R lo W r x->Calls Tryz.prog g (#[.agg r.toArray] ++ lb) W fun e w'=>e=.returned (.bool (p x))/\Below W.heap.size W w') (eg:∀args w,(callFunc g args).run Tryz.prog w=.ok (.enter g args) w) :
  Calls Tryz.prog 112 #[u,.func (.func g) #[] lb] w (IdxPost p xs w):=by
 obtain⟨ua,uc,rfl,ul,um,h0⟩:=hu
 replace hp:=kH hp
 replace h0:=kH h0
 obtain⟨m,hm⟩ : ∃m,m=xs.length:=⟨_,rfl⟩
 rw[<- hm]at ul ⊢
 replace hm:=kH hm
 go_enter Tryz.func112,Tryz.ntmps112
 go_wp2_with fail
 go_loopw [8] (fun i wr=>∃k:Nat,k<=m/\i=.int .i64 k/\Below w.heap.size w wr/\Hid (∀y∈xs.take k,p y=false)) (fun i _=>m-(intOf i).toNat)
 case atStart=>exact⟨0,by omega,rfl,Below.refl _ _,fun y hy=>by simp at hy⟩
 case round=>
  obtain⟨k,hk,rfl,hw,hF⟩:=hrel
  by_cases hlt:k<m
  ·obtain⟨b1,o1,x,r,_,rfl,P1,hx,r1⟩:=(h0.out.below GDNode.good hw).get hm hlt
   have hc:=hp.out k x r wr P1.out hw hx
   obtain⟨u0,rfl,hxf⟩:=id hx
   obtain⟨e_0,e_1,e_2,e_3⟩:=r1.cells4
   clear r1 hx hxf
   replace P1:=P1
   generalize hq:p x=q at hc
   replace hq:=kH hq
   cases q with
   |true=>
    go_wp2_with (go_at_fn g;refine hc.mono ?_;rintro e w1 ⟨rfl,hb⟩)
    go_returns
    exact⟨k,rfl,by
     have:xs.any p=true:=List.any_eq_true.2 ⟨x,List.mem_of_getElem? P1.out,hq.out⟩
     rw[this];simp,hw.trans (hb.mono hw.size)⟩
   |false=>
    go_wp2_with (go_at_fn g;refine hc.mono ?_;rintro e w1 ⟨rfl,hb⟩)
    go_roundw
    case rel=>exact⟨k+1,by omega,by go_num,hw.trans (hb.mono hw.size),by
     show ∀y∈xs.take (k+1),p y=false
     rw[take_snoc' P1.out]
     intro y hy
     rcases List.mem_append.1 hy with h|h
     ·exact hF.out y h
     ·simp at h;subst h;exact hq.out⟩
    case measure=>simp[intOf];omega
  ·obtain rfl:k=m:=by omega
   go_wp2_with fail
   go_returns
   exact⟨-1,rfl,by
    have hF:=hF.out
    rw[take_full hm]at hF
    have:xs.any p=false:=List.any_eq_false.2 fun y hy=>by rw[hF y hy];simp
    rw[this];simp,hw⟩
theorem containsFuncDNode_c (xs:List GDNode) (p:GDNode->Bool) (g:Nat) (lb:Array Value) (lo:Nat) (u:Value) (w:World) (hu:Sl GDNode.R 4 lo w u xs)
  (hp:∀ (i:Nat) x r W,xs[i]? = some x->Below w.heap.size w W->GDNode.R lo W r x->Calls Tryz.prog g (#[.agg r.toArray] ++ lb) W fun e w'=>e=.returned (.bool (p x))/\Below W.heap.size W w') (eg:∀args w,(callFunc g args).run Tryz.prog w=.ok (.enter g args) w) :
  Calls Tryz.prog 69 #[u,.func (.func g) #[] lb] w fun e w'=>e=.returned (.bool (xs.any p))/\Below w.heap.size w w':=by
 have hc:=indexFuncDNode_c xs p g lb lo u w hu hp eg
 replace hc:Calls Tryz.prog 112 #[u,.func (.func g) #[] lb] w fun e w'=>∃n:Int,e=.returned (.int .i64 n)/\decide (0<=n)=xs.any p/\Below w.heap.size w w':=hc
 clear hp
 generalize xs.any p=q at *
 obtain⟨ua,uc,rfl⟩:=hu.form
 clear hu
 go_enter Tryz.func69,Tryz.ntmps69
 go_wp2_with (go_at_call 112;refine hc.mono ?_;rintro e w1 ⟨n,rfl,hn,hb⟩)
 go_returns
 exact⟨rfl,hb⟩
def kidsEnd (E:Nat->Int):Int->List Int->Int
 |next,[]=>next
 |next,k :: ks=>if k≠next then -1 else if E k.toNat<0 then -1 else kidsEnd E (E k.toNat) ks
def ends (l:List GDNode):Nat->Nat->Int
 |0,_=>-1
 |f+1,i=>match l[i]? with
  |none=>-1
  |some n=>kidsEnd (ends l f) (i+1) n.kids
theorem kidsEnd_range {E:Nat->Int} {L:Int} (hE:∀k,0<=E k->(k:Int)+1<=E k/\E k<=L):∀ (ks:List Int) (nx:Int),0<=nx->nx<=L->0<=kidsEnd E nx ks->nx<=kidsEnd E nx ks/\kidsEnd E nx ks<=L
 |[],nx,h0,hL,h=>⟨Int.le_refl _,hL⟩
 |k :: ks,nx,h0,hL,h=>by
  unfold kidsEnd at h ⊢
  split at h
  ·omega
  ·split at h
   ·omega
   ·rename_i h1 h2
    have e:k=nx:=by omega
    have h3:=hE k.toNat (by omega)
    have h4:=kidsEnd_range hE ks (E k.toNat) (by omega) h3.2 h
    rw[if_neg h1,if_neg h2]
    omega
theorem ends_range (l:List GDNode):∀ (f i:Nat),0<=ends l f i->(i:Int)+1<=ends l f i/\ends l f i<=l.length
 |0,i,h=>by simp[ends]at h
 |f+1,i,h=>by
  unfold ends at h ⊢
  cases hi:l[i]? with
  |none=>rw[hi]at h;simp at h
  |some n=>
   rw[hi]at h
   have hlt:=(List.getElem?_eq_some_iff.1 hi).1
   exact kidsEnd_range (ends_range l f) n.kids (i+1) (by omega) (by omega) h
theorem ends_out {l:List GDNode} {i:Nat} (h:l.length<=i):∀f,ends l f i = -1
 |0=>rfl
 |f+1=>by unfold ends;rw[List.getElem?_eq_none h]
theorem l07End_out (x:GData) (i:Nat) (r:List Value) (lo:Nat) (w:World) (hx:GData.R lo w r x) (hi:x.nodes.length<=i) :
  Calls Tryz.prog 51 #[.agg r.toArray,.int .i64 i] w fun e w'=>e=.returned (.int .i64 (-1))/\Below w.heap.size w w':=by
 obtain⟨u0,rfl,-,a0⟩:=hx
 obtain⟨pa,pc,rfl⟩:=a0.form
 have d1:decide ((x.nodes.length:Int)<=i)=true:=decide_eq_true (by omega)
 clear a0
 go_enter Tryz.func51,Tryz.ntmps51
 go_wp2
 go_returns
 exact⟨rfl,by go_grown⟩
theorem l07End_c (x:GData) (hL:x.nodes.length<=1152921504606846976):∀ (f i:Nat) (r:List Value) (lo:Nat) (w:World),GData.R lo w r x->x.nodes.length<i+f->
  Calls Tryz.prog 51 #[.agg r.toArray,.int .i64 i] w fun e w'=>e=.returned (.int .i64 (ends x.nodes f i))/\Below w.heap.size w w'
 |0,i,r,lo,w,hx,hf=>by rw[ends_out (by omega)];exact l07End_out x i r lo w hx (by omega)
 |f+1,i,r,lo,w,hx,hf=>by
  have ih:=l07End_c x hL f
  have Hx:=hx
  obtain⟨u0,rfl,-,a0⟩:=hx
  obtain⟨pa,pc,rfl⟩:=a0.form
  by_cases hlt:i<x.nodes.length
  ·have d1:decide ((x.nodes.length:Int)<=i)=false:=decide_eq_false (by omega)
   have d1' : decide (x.nodes.length<=i)=false:=decide_eq_false (by omega)
   obtain⟨pa',pc',he,-,-,h0⟩:=a0
   obtain⟨rfl,rfl⟩ : pa' = pa/\pc' = pc:=by injection he with a b c;exact⟨a.symm,c.symm⟩
   obtain⟨b1,o1,n,s1,_,rfl,P1,q1,r1⟩:=h0.get (kH rfl) hlt
   obtain⟨kv,rfl,-,k0⟩:=q1
   obtain⟨ka,kc,rfl,kl,km,k0⟩:=k0
   have hends:ends x.nodes (f+1) i=kidsEnd (ends x.nodes f) (i+1) n.kids:=by conv=>lhs;unfold ends;rw[P1.out]
   rw[hends]
   have R1:w.cell? ⟨b1,o1+i*4+3,none⟩=some (.slice ka n.kids.length kc):=by simpa using r1 3 _ rfl
   obtain⟨m,hm⟩ : ∃m,m=n.kids.length:=⟨_,rfl⟩
   rw[<- hm]at kl R1
   have X1:=kH hm
   clear hm hends r1 h0
   replace ih:=kH ih
   replace k0:=kH k0
   go_enter Tryz.func51,Tryz.ntmps51
   go_upto_region 1 with fail
   have B:RowAt (w.alloc (.cells #[.slice (some ⟨b1,o1,none⟩) x.nodes.length pc'] 43)) (w.heap.size) 0 [.slice (some ⟨b1,o1,none⟩) x.nodes.length pc']:=RowAt.box w #[.slice (some ⟨b1,o1,none⟩) x.nodes.length pc'] 43
   have hw:Below w.heap.size w (w.alloc (.cells #[.slice (some ⟨b1,o1,none⟩) x.nodes.length pc'] 43)):=by go_grown
   generalize (w.alloc (.cells #[.slice (some ⟨b1,o1,none⟩) x.nodes.length pc'] 43))=w0 at *
   replace R1:=cell_below hw R1
   have hb0:=B.box1
   go_wp2_with fail
   go_loopw [5,22] (fun nx ii wr=>∃ (j:Nat) (z:Nat),j<=m/\i+1<=z/\z<=x.nodes.length/\nx=.int .i64 z/\ii=.int .i64 j/\Hid (kidsEnd (ends x.nodes f) (i+1) n.kids=kidsEnd (ends x.nodes f) z (n.kids.drop j))/\Below w.heap.size w wr/\RowAt wr w.heap.size 0 [.slice (some ⟨b1,o1,none⟩) x.nodes.length pc']/\w.heap.size<wr.heap.size) (fun _ ii _=>m-(intOf ii).toNat)
   case atStart=>exact⟨0,i+1,by omega,by omega,by omega,by simp,rfl,by simp[Hid],hw,B,World.block_lt_of_cell? _ _ hb0⟩
   case round=>
    clear hb0 R1 B hw
    obtain⟨j,z,hj,hz1,hz2,rfl,rfl,hK,hw,B,hs⟩:=hrel
    have hb0:=B.box1
    by_cases hjm:j<m
    ·obtain⟨b2,o2,k,s2,_,rfl,P2,⟨rfl,hk64⟩,r2⟩:=((k0.out.below IntR.good hw).get X1 hjm)
     have e0:wr.cell? ⟨b2,o2+j,none⟩=some (.int .i64 k):=by simpa using r2 0 _ rfl
     have hdrop:n.kids.drop j=k :: n.kids.drop (j+1):=by
      obtain⟨hjl,he⟩:=List.getElem?_eq_some_iff.1 P2.out
      rw[List.drop_eq_getElem_cons hjl,he]
     rw[hdrop]at hK
     clear r2 hdrop
     by_cases hkz:k=z
     ·subst hkz
      have hK1:kidsEnd (ends x.nodes f) (z:Int) (((z:Nat):Int) :: n.kids.drop (j+1))=(if ends x.nodes f z<0 then -1 else kidsEnd (ends x.nodes f) (ends x.nodes f z) (n.kids.drop (j+1))):=by
       conv=>lhs;unfold kidsEnd
       simp
      rw[Hid,hK1]at hK
      replace hK:=kH hK
      clear hK1
      have c1:=fun W hW=>ih.out z [.slice (some ⟨b1,o1,none⟩) x.nodes.length pc'] lo W hW (by omega)
      have hr:=ends_range x.nodes f z
      generalize ends x.nodes f z=e at *
      replace hr:=kH hr
      have hd:((z:Int) != z)=false:=by simp
      go_wp2_with fail
      refine(c1 _ (GData.good.below Hx hw)).mono ?_
      rintro e' w2 ⟨rfl,hb⟩
      have hw2:=hw.trans (hb.mono hw.size)
      have B2:=B.below hb
      have hs2:=Nat.lt_of_lt_of_le hs hb.size
      clear hb hb0 e0 B hw hs
      by_cases he:e<0
      ·have d2:decide (e<0)=true:=decide_eq_true he
       rw[Hid,if_pos he]at hK
       replace hK:=kH hK
       clear hr c1 he
       go_wp2
       go_returns
       exact⟨by rw[hK.out];rfl,hw2⟩
      ·have d2:decide (e<0)=false:=decide_eq_false he
       rw[Hid,if_neg he]at hK
       have hr':=hr.out (by omega)
       obtain⟨z',rfl⟩ : ∃z' : Nat,e=z':=⟨e.toNat,by omega⟩
       replace hK:=kH hK
       clear hr c1 he
       go_wp2
       go_roundw
       case rel=>exact⟨j+1,z',by omega,by omega,by omega,rfl,by go_num,hK,hw2,B2,hs2⟩
       case measure=>simp[intOf];omega
     ·have hK1:kidsEnd (ends x.nodes f) (z:Int) (k :: n.kids.drop (j+1)) = -1:=by
       conv=>lhs;unfold kidsEnd
       rw[if_pos hkz]
      rw[Hid,hK1]at hK
      replace hK:=kH hK
      clear hK1
      have hd:(k != (z:Int))=true:=by simpa using hkz
      clear hkz
      go_wp2
      go_returns
      exact⟨by rw[hK.out];rfl,hw⟩
    ·obtain rfl:j=m:=by omega
     rw[Hid,X1.out,List.drop_length]at hK
     replace hK:=kH (hK.trans (by unfold kidsEnd;rfl:_=(z:Int)))
     go_wp2
     go_returns
     exact⟨by rw[hK.out];rfl,hw⟩
  ·rw[ends_out (by omega)];exact l07End_out x i _ lo w Hx (by omega)
end Go.Proofs.YtkikkfjmggobpaaGreat
