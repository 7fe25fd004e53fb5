/- Parts of the proof, merged: Us16, Us20. -/
import Derived.Test.YtkikkfjmggobpaaGreatDt32
namespace Go.Proofs.YtkikkfjmggobpaaGreat
open Go.RowKit
set_option maxRecDepth 100000
set_option maxHeartbeats 16000000
set_option linter.unusedVariables false
set_option linter.unusedSimpArgs false
attribute [local go_sem] Ext.cell
theorem l05Canon_c (l:List GTyItem) (hB:l.length<=1000000000) (tv:Value) (w:World) (ht:Sl GTyItem.R 3 0 w tv l) :
  Calls Tryz.prog 23 #[.agg #[tv]] w (TyPost (canL l) w):=by
 have hpost:∀W v B,OwnT B W v (canL l)->w.heap.size<=B->Below w.heap.size w W->TyPost (canL l) w (.returned (.agg #[v])) W:=fun W v B h1 h2 h3=>⟨v,rfl,h1.mono h2,h3⟩
 generalize TyPost (canL l) w=Q at *
 obtain⟨ta,tc,rfl,tl,tm,t0⟩:=ht
 obtain⟨n,hn⟩ : ∃n,n=l.length:=⟨_,rfl⟩
 rw[<- hn]at tl hB ⊢
 have tK:∀W,Below w.heap.size w W->SlAt GTyItem.R 3 0 W ta l:=fun W hW=>t0.below GTyItem.good hW
 replace tK:=kH tK;replace hn:=kH hn;replace hpost:=kH hpost
 clear t0
 obtain⟨iI,hi0,hz0,hz1,hz2⟩:=info_parts info_TyItemS;have II:=kH hi0;have II0:=kH hz0;have II1:=kH hz1;have II2:=kH hz2;clear hi0 hz0 hz1 hz2
 obtain⟨iJ,hi0,hz0,hz1,hz2⟩:=info_parts info_IntS;have IJ:=kH hi0;have IJ0:=kH hz0;have IJ1:=kH hz1;have IJ2:=kH hz2;clear hi0 hz0 hz1 hz2
 go_enter Tryz.func23,Tryz.ntmps23
 go_upto_region 1 with fail
 have B:RowAt (w.alloc (.cells #[.slice ta n tc] 33)) (w.heap.size) 0 [.slice ta n tc]:=RowAt.box w #[.slice ta n tc] 33
 have B:=B.below (show Below (w.alloc (.cells #[.slice ta n tc] 33)).heap.size (w.alloc (.cells #[.slice ta n tc] 33)) ((w.alloc (.cells #[.slice ta n tc] 33)).alloc (.cells #[.slice none 0 0] 33)) by go_grown)
 have R:RowAt ((w.alloc (.cells #[.slice ta n tc] 33)).alloc (.cells #[.slice none 0 0] 33)) (w.heap.size+1) 0 [.slice none 0 0]:=by have h:=RowAt.box (w.alloc (.cells #[.slice ta n tc] 33)) #[.slice none 0 0] 33;simp only[World.size_alloc]at h;exact h
 have RW:Wr ((w.alloc (.cells #[.slice ta n tc] 33)).alloc (.cells #[.slice none 0 0] 33)) (w.heap.size+1) 0 1:=by have h:=Wr.box (w.alloc (.cells #[.slice ta n tc] 33)) #[.slice none 0 0] 33;simp only[World.size_alloc]at h;exact h
 have hw:Below w.heap.size w ((w.alloc (.cells #[.slice ta n tc] 33)).alloc (.cells #[.slice none 0 0] 33)):=by go_grown
 generalize ((w.alloc (.cells #[.slice ta n tc] 33)).alloc (.cells #[.slice none 0 0] 33))=w0 at *
 have hsR0:=World.block_lt_of_cell? _ _ (R 0 _ rfl)
 dsimp only at hsR0
 have hz0:=hw.size
 go_upto_region 3 with fail
 obtain⟨w1,hW1⟩ : ∃W,W=(w0.alloc (.cells #[] 3)).alloc (.cells #[.slice none 0 0] 33):=⟨_,rfl⟩
 rw[<- hW1]
 have hb1:Below w0.heap.size w0 w1:=by rw[hW1];go_grown
 have O1:RowAt w1 (w0.heap.size+1) 0 [.slice none 0 0]:=by rw[hW1];have h:=RowAt.box (w0.alloc (.cells #[] 3)) #[.slice none 0 0] 33;simp only[World.size_alloc]at h;exact h
 have O1W:Wr w1 (w0.heap.size+1) 0 1:=by rw[hW1];have h:=Wr.box (w0.alloc (.cells #[] 3)) #[.slice none 0 0] 33;simp only[World.size_alloc]at h;exact h
 have S1:OwnI w0.heap.size w1 (.slice (some ⟨w0.heap.size,0,none⟩) 0 0) (seenL (l.take 0)):=by
  rw[List.take_zero]
  exact⟨own_empty_at (by rw[hW1,Below.heap_alloc _ _ _ (by simp)];exact heap_alloc_new' w0 _ _ rfl) (Nat.le_refl _),fun x h=>(by cases h)⟩
 have T1:OwnT w0.heap.size w1 (.slice none 0 0) (canL (l.take 0)):=by rw[List.take_zero];exact OwnF.empty
 have hz1:w1.heap.size=w0.heap.size+2:=by rw[hW1];simp
 have R1:=R.below hb1
 have R1W:=RW.below hb1
 have hw1:=hw.trans (hb1.mono hz0)
 obtain⟨B1,hB1⟩ : ∃q,q=w0.heap.size:=⟨_,rfl⟩
 rw[<- hB1]at O1 O1W S1 T1 hz1 hsR0 ⊢
 have hBz:B1+1<w1.heap.size:=by omega
 have hsO:∀g,(Value.slice (some ⟨B1,0,none⟩) 0 0).ownBlock=some g->g≠B1+1:=fun g hg=>by simp[Value.ownBlock]at hg;omega
 have hoO:∀g,(Value.slice none 0 0).ownBlock=some g->g≠B1+1/\(Value.slice (some ⟨B1,0,none⟩) 0 0).ownBlock≠some g:=fun g hg=>by simp[Value.ownBlock]at hg
 generalize (Value.slice (some ⟨B1,0,none⟩) 0 0)=sv0 at *
 replace S1:=kH S1;replace T1:=kH T1;replace hB1:=kH hB1;replace hsO:=kH hsO;replace hoO:=kH hoO
 have b_0:=B.box1;have hsB:=bLt b_0
 have B1_:=B.below hb1
 clear hW1 hb1 hz1 b_0 hsB R RW B hw
 have b1__0:=B1_.box1;have hsB1_:=bLt b1__0
 go_wp2_with fail
 go_loopw [3,13] (fun sv ii wr=>∃ (i:Nat) (s0 ov:Value),s0=sv/\i<=n/\ii=.int .i64 i/\Hid (OwnI B1 wr s0 (seenL (l.take i)))/\RowAt wr (B1+1) 0 [ov]/\Wr wr (B1+1) 0 1/\Hid (OwnT B1 wr ov (canL (l.take i)))/\Hid (∀g,s0.ownBlock=some g->g≠B1+1)/\Hid (∀g,ov.ownBlock=some g->g≠B1+1/\s0.ownBlock≠some g)/\RowAt wr (w.heap.size+1) 0 [.slice none 0 0]/\Wr wr (w.heap.size+1) 0 1/\Below w.heap.size w wr/\B1+1<wr.heap.size) (fun _ ii _=>n-(intOf ii).toNat)
 case atStart=>exact⟨0,_,_,rfl,by omega,rfl,S1,O1,O1W,T1,hsO,hoO,R1,R1W,hw1,hBz⟩
 case round=>
  clear O1 O1W S1 T1 hsO hoO R1 R1W hw1 hBz b1__0 hsB1_ B1_
  obtain⟨i,sv,ov,rfl,hi,rfl,SI,O,OW,OT,hsO,hoO,R,RW,hw,hBz⟩:=hrel
  have hz:=hw.size
  by_cases hlt:i<n
  ·obtain⟨b1,o1,x,r,_,rfl,P1,⟨rfl,hwf⟩,r1⟩:=(tK.out _ hw).get hn.out hlt
   obtain⟨hst1,hst2⟩:=canL_take P1.out
   have hsl:=seenL_len (l.take i)
   have hcl:=canL_len (l.take i)
   rw[List.length_take]at hsl hcl
   obtain⟨va,nm,ar⟩:=x
   dsimp only[tyRow]at r1
   have e_0:wr.cell? ⟨b1,o1+i*3,none⟩=some (.int .i64 va):=by simpa using r1 0 _ rfl
   have e_1:wr.cell? ⟨b1,o1+i*3+1,none⟩=some (.string nm):=r1 1 _ rfl
   have e_2:wr.cell? ⟨b1,o1+i*3+2,none⟩=some (.int .i64 ar):=r1 2 _ rfl
   have hbb1:=World.block_lt_of_cell? _ _ e_0;dsimp only at hbb1
   obtain⟨q,hq⟩ : ∃q,nm.toList.isEmpty=q:=⟨_,rfl⟩
   have hq2:(nm.toList == [])=q:=by rw[<- hq];cases nm.toList<;>rfl
   generalize hys:seenL (l.take i)=ys at *
   generalize hPi:canL (l.take i)=Pi at *
   obtain⟨va1,vc1,rfl⟩:=OT.out.form
   obtain⟨sa1,sc1,rfl⟩:=SI.out.form
   obtain⟨vn,hvn⟩ : ∃y,y=Pi.length:=⟨_,rfl⟩
   obtain⟨sn,hsn⟩ : ∃y,y=ys.length:=⟨_,rfl⟩
   rw[<- hvn]at OT hoO O hcl
   rw[<- hsn]at SI hsO hoO hsl ⊢
   have hvn2:vn<=n:=by omega
   have hsn2:sn<=n:=by omega
   clear r1 P1 hys hPi hsl hcl
   replace hst1:=kH hst1;replace hst2:=kH hst2;replace hq:=kH hq;replace hwf:=kH hwf;replace hvn:=kH hvn;replace hsn:=kH hsn
   go_upto_region 6 with fail
   obtain⟨w2,hW2⟩ : ∃W,W=wr.alloc (.cells #[.int .i64 va,.string nm,.int .i64 ar] 107):=⟨_,rfl⟩
   rw[<- hW2]
   have hb2:Below wr.heap.size wr w2:=by rw[hW2];go_grown
   have X:RowAt w2 wr.heap.size 0 [.int .i64 va,.string nm,.int .i64 ar]:=by rw[hW2];exact RowAt.box wr #[_,_,_] _
   have XW:Wr w2 wr.heap.size 0 3:=by rw[hW2];exact Wr.box wr #[_,_,_] _
   have O2:=O.below hb2
   have O2W:=OW.below hb2
   have T2:=kH (OT.out.below hb2)
   have S2:=kH (SI.out.below hb2)
   have R2:=R.below hb2
   have R2W:=RW.below hb2
   have hw2:=hw.trans (hb2.mono hz)
   have hz2:=hb2.size
   have hvx:∀g,(Value.slice va1 vn vc1).ownBlock=some g->g≠wr.heap.size:=fun g hg=>by have:=OT.out.base g hg;omega
   have hsx:∀g,(Value.slice sa1 sn sc1).ownBlock=some g->g≠wr.heap.size:=fun g hg=>by have:=SI.out.base g hg;omega
   obtain⟨xb,hxb⟩ : ∃x,x=wr.heap.size:=⟨_,rfl⟩
   rw[<- hxb]at X XW hvx hsx hBz hz2 ⊢
   replace hxb:=kH hxb;replace hvx:=kH hvx;replace hsx:=kH hsx
   clear hW2 hb2 e_0 e_1 e_2 hbb1 O OW OT SI R RW hw hz
   have xf_0:=XW.frz 0 (by omega);have xf_1:=XW.frz 1 (by omega);have xf_2:=XW.frz 2 (by omega);obtain⟨x_0,x_1,x_2⟩:=X.box3;have hsX:=bLt x_0;have o2f_0:=O2W.frz 0 (by omega);have o2_0:=O2.box1;have hsO2:=bLt o2_0
   cases q
   ·have hc1:canX (seenX ys ⟨va,nm,ar⟩) ⟨va,nm,ar⟩=⟨va,nm,ar⟩:=canX_named hq.out
    have hc2:seenX ys ⟨va,nm,ar⟩=ys:=seenX_named hq.out
    replace hst1:=hst1.out;replace hst2:=hst2.out
    rw[hc1]at hst1
    rw[hc2]at hst2
    obtain⟨wt,rfl⟩ : ∃q,q=w2:=⟨_,rfl⟩
    obtain⟨c0,rfl⟩ : ∃q,q=va:=⟨_,rfl⟩
    obtain⟨svT,hsv⟩ : ∃q,q=Value.slice sa1 sn sc1:=⟨_,rfl⟩
    rw[<- hsv]at S2 hoO hsO ⊢
    have TT:=T2
    have SS:=S2
    have OTr:=O2
    have OTW:=O2W
    have RT:=R2
    have RTW:=R2W
    have hwT:=hw2
    have hoT:=hoO
    have hsT:=hsO
    have hy0:=hwf
    replace hsv:=kH hsv;replace hst1:=kH hst1;replace hst2:=kH hst2
    clear hc1 hc2 T2 S2 O2 O2W R2 R2W hw2 hoO hsO hwf
    (have hownT:=TT.out.1;rw[<- hvn.out]at hownT;replace hownT:=kH hownT;go_wp2_with (((at_builtin;refine wpList_append_lies _ rfl _ _ _ rfl (B1) 107 iI _ 3 32 Tryz.underlying31 II.out II0.out II1.out II2.out rfl (by omega) (.slice va1 vn vc1) (vn) (rowsOf tyRow Pi) rfl (own_below hownT.out (by go_grown)) ⟨wt.heap.size,0,none⟩ 1 1 [.int .i64 c0,.string nm,.int .i64 ar] rfl rfl (World.news_of_block (cs:=#[.int .i64 c0,.string nm,.int .i64 ar]) (t:=107) (fr:=(0,0)) (heap_alloc_new' _ _ _ (by simp))) (by intro u hu;simp at hu;repeat' first|(subst hu;rfl)|rcases hu with hu|hu) (by omega) (by unfold maxLen;omega) (by omega) (by simp;omega) _ rfl ?_;intro g2 cap2 w6 hown6 hgrow6 hat6 hlt6);have k6:=kept_of hgrow6 (w:=wt) (by go_grown);have O6:=OTr.kept k6 (fun e=>(hoT.out _ e.symm).1 rfl);have O6W:=OTW.kept k6 (fun e=>(hoT.out _ e.symm).1 rfl);have o6_0:=O6.box1;have of6:=O6W.frz 0 (by omega);have hsO6:=bLt o6_0;replace k6:=kH k6));have hbA:Below wt.heap.size wt (wt.alloc (.cells #[.int .i64 c0,.string nm,.int .i64 ar] 107)):=(by go_grown);have hzA:(wt.alloc (.cells #[.int .i64 c0,.string nm,.int .i64 ar] 107)).heap.size=wt.heap.size+1:=(by simp);have hbv:=TT.out.base;have hbs:=SS.out.base;have hat6' : (Value.slice va1 vn vc1).ownBlock=some g2\/(wt.alloc (.cells #[.int .i64 c0,.string nm,.int .i64 ar] 107)).heap.size<=g2:=(by rcases hat6 with h|h;exact .inl h;exact .inr (by omega));obtain⟨y1,y2,y3,y4,y5,y6,y7,y8⟩:=app_step2 (w:=w) (B1:=B1) (Mi:=[⟨c0,nm,ar⟩]) (mn:=1) hvn.out rfl (OTr.below hbA) (OTW.below hbA) (TT.out.below hbA) (RT.below hbA) (RTW.below hbA) (hwT.trans (hbA.mono hwT.size)) (fun g hg=>⟨(hoT.out g hg).1,by have:=hbv g hg;omega⟩) (by omega) (by omega) (by omega) (by omega) (by omega) (fun y hy=>by simp only[List.mem_singleton]at hy;subst hy;exact hy0.out) (by rw[rowsOf_one];rfl) hown6 hgrow6 hat6';have KS:Kept (fun k=>k=B1+1\/some k=(Value.slice va1 vn vc1).ownBlock) (wt.alloc (.cells #[.int .i64 c0,.string nm,.int .i64 ar] 107)) (w6.setCell ⟨B1+1,0,none⟩ (.slice (some ⟨g2,0,none⟩) (vn+1) cap2)):=Kept.set (p:=⟨B1+1,0,none⟩) (fun k h1 h2=>(kept_of hgrow6 (Below.refl _ _)) k h1 (fun e=>h2 (.inr e))) (.inl rfl) _;have y9:=(SS.out.below hbA).kept KS (fun g hg e=>by rcases e with e|e;exact hsT.out g hg e;exact(hoT.out g e.symm).2 hg);have hoN:∀g,(Value.slice (some ⟨g2,0,none⟩) (vn+1) cap2).ownBlock=some g->g≠B1+1/\svT.ownBlock≠some g:=(fun g hg=>⟨(y8 g hg).1,fun e=>by(obtain rfl:g2=g:=by simpa [Value.ownBlock] using hg);rcases hat6' with h|h;exact(hoT.out g2 h).2 e;have:=hbs g2 e;omega⟩);have y7' : wt.heap.size+1<=(w6.setCell ⟨B1+1,0,none⟩ (.slice (some ⟨g2,0,none⟩) (vn+1) cap2)).heap.size:=(by rw[<- hzA];exact y7);go_roundw)
    case rel=>exact⟨i+1,_,_,rfl,by omega,by go_num,kH (by rw[hst2.out];exact y9),y1,y2,kH (by rw[hst1.out];exact y3),hsT,kH hoN,y4,y5,y6,by omega⟩
    case measure=>simp[intOf];omega
   ·have hnil:nm=⟨#[]⟩:=by
     have h:=hq.out
     rw[ByteArray.toList_eq]at h
     have h2:=List.isEmpty_iff.1 h
     cases nm;simp at h2;rw[h2]
    have SSl:=S2.out.sl flatInt
    have hb20:=kH (Below.refl w2.heap.size w2)
    have hne0:=kH (show ∀k,k<0->ys[k]?≠some va from fun k hk=>by omega)
    replace SSl:=kH SSl;replace hnil:=kH hnil
    go_wp2_with fail
    go_loopw [7] (fun jj wq=>∃j:Nat,j<=sn/\jj=.int .i64 j/\Hid (∀k,k<j->ys[k]?≠some va)/\Hid (Below w2.heap.size w2 wq)) (fun jj _=>sn-(intOf jj).toNat)
    case atStart=>exact⟨0,by omega,rfl,hne0,hb20⟩
    case round=>
     clear hne0 hb20 x_0 x_1 x_2 xf_0 xf_1 xf_2 hsX o2_0 o2f_0 hsO2
     obtain⟨j,hj,rfl,hne,hbj⟩:=hrel
     have hzj:=hbj.out.size
     have X3:=X.below hbj.out
     have X3W:=XW.below hbj.out
     have O3:=O2.below hbj.out
     have O3W:=O2W.below hbj.out
     have T3:=kH (T2.out.below hbj.out)
     have S3:=kH (S2.out.below hbj.out)
     have R3:=R2.below hbj.out
     have R3W:=R2W.below hbj.out
     have hw3:=hw2.trans (hbj.out.mono hw2.size)
     have x3f_0:=X3W.frz 0 (by omega);have x3f_1:=X3W.frz 1 (by omega);have x3f_2:=X3W.frz 2 (by omega);obtain⟨x3_0,x3_1,x3_2⟩:=X3.box3;have hsX3:=bLt x3_0
     by_cases hlt2:j<sn
     ·obtain⟨ra,rc,hv,rl,rm,r0⟩:=SSl.out.below IntR.good hbj.out
      obtain⟨rfl,-,rfl⟩ : sa1=ra/\sn=ys.length/\sc1=rc:=by injection hv with h1 h2 h3;exact⟨h1,h2,h3⟩
      obtain⟨g4,o4,y,r4,_,rfl,P4,⟨rfl,-⟩,r4'⟩:=r0.get hsn hlt2
      have q_0:wr.cell? ⟨g4,o4+j,none⟩=some (.int .i64 y):=by simpa using r4' 0 _ rfl
      have hgl:=World.block_lt_of_cell? _ _ q_0;dsimp only at hgl
      have hsc:sn<=sc1:=by have:=hsn.out;omega
      clear r4' r0 hv rl
      by_cases hy:y=va
      ·have dy:(y != va)=false:=by rw[hy];simp
       have dj:((j:Int) == (sn:Int))=false:=beq_eq_false_iff_ne.2 (by omega)
       have hidx:ys.idxOf va=j:=idxOf_at (by rw[P4.out,hy]) hne.out
       have hmem:va∈ys:=by rw[<- hy];exact List.mem_of_getElem? P4.out
       replace hy:=kH hy
       go_upto_region 8 with fail
       (refine wp_region_ext_lit (by kernel_rfl) (by kernel_rfl) ?_;(repeat (any_goals (first|go_big_quiet_step (fail)|quiet_step (fail)|(refine wpQuiet_step (fun K hK=>?_);go_simp;split<;>(refine hK _ ?_;clear hK K)))));all_goals (refine wpQuiet_nil ?_;rintro wq ⟨⟨_,hbq⟩,rfl⟩))
       replace X3:=X3.below hbq;replace X3W:=X3W.below hbq;replace O3:=O3.below hbq;replace O3W:=O3W.below hbq;replace T3:=kH (T3.out.below hbq);replace S3:=kH (S3.out.below hbq);replace R3:=R3.below hbq;replace R3W:=R3W.below hbq;replace hw3:=hw3.trans (hbq.mono hw3.size)
       have hzq:=hbq.size
       clear x3_0 x3_1 x3_2 x3f_0 x3f_1 x3f_2 hsX3 q_0 hgl
       have x3f_0:=X3W.frz 0 (by omega);have x3f_1:=X3W.frz 1 (by omega);have x3f_2:=X3W.frz 2 (by omega);obtain⟨x3_0,x3_1,x3_2⟩:=X3.box3;have hsX3:=bLt x3_0
       go_upto_region 13 with fail
       obtain⟨wt,hwt⟩ : ∃W,W=wq.setCell ⟨xb,0,none⟩ (.int .i64 (j:Int)):=⟨_,rfl⟩
       rw[<- hwt]
       have Kt:Kept (fun q=>q=xb) wq wt:=by rw[hwt];exact(Kept.refl (fun q=>q=xb) wq).set (p:=⟨xb,0,none⟩) rfl _
       have XT:RowAt wt xb 0 [.int .i64 (j:Int),.string nm,.int .i64 ar]:=by rw[hwt];exact X3.putAt (j:=0) (by simp) _
       have hzt:wt.heap.size=wq.heap.size:=by rw[hwt];simp
       have hwT:Below w.heap.size w wt:=by rw[hwt];exact hw3.setCell (p:=⟨xb,0,none⟩) (by dsimp only;omega) _
       have OTr:=O3.kept Kt (by omega)
       have OTW:=O3W.kept Kt (by omega)
       have TT:=kH (T3.out.kept Kt (fun g hg=>hvx.out g hg))
       have SS:=kH (S3.out.kept Kt (fun g hg=>hsx.out g hg))
       have RT:=R3.kept Kt (by omega)
       have RTW:=R3W.kept Kt (by omega)
       have hcs:seenX ys ⟨va,nm,ar⟩=ys:=by unfold seenX;rw[if_neg (fun h=>h.2 hmem)]
       have hcx:canX ys ⟨va,nm,ar⟩=⟨(j:Int),nm,ar⟩:=by unfold canX;rw[if_pos hq.out,hidx]
       have hst1':=hst1.out;have hst2':=hst2.out
       rw[hcs,hcx]at hst1'
       rw[hcs]at hst2'
       have hy0:Hid (⟨(j:Int),nm,ar⟩ : GTyItem).wf:=kH ⟨⟨by dsimp only;omega,by dsimp only;omega⟩,hwf.out.2.1,hwf.out.2.2⟩
       obtain⟨c0,hc0⟩ : ∃q,q=(j:Int):=⟨_,rfl⟩
       rw[<- hc0]at XT hst1' hy0 ⊢
       obtain⟨svT,hsv⟩ : ∃q,q=Value.slice (some ⟨g4,o4,none⟩) sn sc1:=⟨_,rfl⟩
       rw[<- hsv]at SS hoO hsO ⊢
       have hoT:=hoO
       have hsT:=hsO
       clear hst1 hst2
       have hst1:=kH hst1';have hst2:=kH hst2'
       replace hsv:=kH hsv;replace hc0:=kH hc0;replace hidx:=kH hidx;replace hmem:=kH hmem;replace hzt':=kH hzt
       have hztl:xb<wt.heap.size:=by omega
       clear hst1' hst2' hcs hcx hwt Kt X3 X3W O3 O3W T3 S3 R3 R3W hw3 x3_0 x3_1 x3_2 x3f_0 x3f_1 x3f_2 hsX3 hoO hsO hzt dj
       obtain⟨xt_0,xt_1,xt_2⟩:=XT.box3;have hsXT:=bLt xt_0;have otr_0:=OTr.box1;have hsOTr:=bLt otr_0
       have otf:=OTW.frz 0 (by omega)
       (have hownT:=TT.out.1;rw[<- hvn.out]at hownT;replace hownT:=kH hownT;go_wp2_with (((at_builtin;refine wpList_append_lies _ rfl _ _ _ rfl (B1) 107 iI _ 3 32 Tryz.underlying31 II.out II0.out II1.out II2.out rfl (by omega) (.slice va1 vn vc1) (vn) (rowsOf tyRow Pi) rfl (own_below hownT.out (by go_grown)) ⟨wt.heap.size,0,none⟩ 1 1 [.int .i64 c0,.string nm,.int .i64 ar] rfl rfl (World.news_of_block (cs:=#[.int .i64 c0,.string nm,.int .i64 ar]) (t:=107) (fr:=(0,0)) (heap_alloc_new' _ _ _ (by simp))) (by intro u hu;simp at hu;repeat' first|(subst hu;rfl)|rcases hu with hu|hu) (by omega) (by unfold maxLen;omega) (by omega) (by simp;omega) _ rfl ?_;intro g2 cap2 w6 hown6 hgrow6 hat6 hlt6);have k6:=kept_of hgrow6 (w:=wt) (by go_grown);have O6:=OTr.kept k6 (fun e=>(hoT.out _ e.symm).1 rfl);have O6W:=OTW.kept k6 (fun e=>(hoT.out _ e.symm).1 rfl);have o6_0:=O6.box1;have of6:=O6W.frz 0 (by omega);have hsO6:=bLt o6_0;replace k6:=kH k6));have hbA:Below wt.heap.size wt (wt.alloc (.cells #[.int .i64 c0,.string nm,.int .i64 ar] 107)):=(by go_grown);have hzA:(wt.alloc (.cells #[.int .i64 c0,.string nm,.int .i64 ar] 107)).heap.size=wt.heap.size+1:=(by simp);have hbv:=TT.out.base;have hbs:=SS.out.base;have hat6' : (Value.slice va1 vn vc1).ownBlock=some g2\/(wt.alloc (.cells #[.int .i64 c0,.string nm,.int .i64 ar] 107)).heap.size<=g2:=(by rcases hat6 with h|h;exact .inl h;exact .inr (by omega));obtain⟨y1,y2,y3,y4,y5,y6,y7,y8⟩:=app_step2 (w:=w) (B1:=B1) (Mi:=[⟨c0,nm,ar⟩]) (mn:=1) hvn.out rfl (OTr.below hbA) (OTW.below hbA) (TT.out.below hbA) (RT.below hbA) (RTW.below hbA) (hwT.trans (hbA.mono hwT.size)) (fun g hg=>⟨(hoT.out g hg).1,by have:=hbv g hg;omega⟩) (by omega) (by omega) (by omega) (by omega) (by omega) (fun y hy=>by simp only[List.mem_singleton]at hy;subst hy;exact hy0.out) (by rw[rowsOf_one];rfl) hown6 hgrow6 hat6';have KS:Kept (fun k=>k=B1+1\/some k=(Value.slice va1 vn vc1).ownBlock) (wt.alloc (.cells #[.int .i64 c0,.string nm,.int .i64 ar] 107)) (w6.setCell ⟨B1+1,0,none⟩ (.slice (some ⟨g2,0,none⟩) (vn+1) cap2)):=Kept.set (p:=⟨B1+1,0,none⟩) (fun k h1 h2=>(kept_of hgrow6 (Below.refl _ _)) k h1 (fun e=>h2 (.inr e))) (.inl rfl) _;have y9:=(SS.out.below hbA).kept KS (fun g hg e=>by rcases e with e|e;exact hsT.out g hg e;exact(hoT.out g e.symm).2 hg);have hoN:∀g,(Value.slice (some ⟨g2,0,none⟩) (vn+1) cap2).ownBlock=some g->g≠B1+1/\svT.ownBlock≠some g:=(fun g hg=>⟨(y8 g hg).1,fun e=>by(obtain rfl:g2=g:=by simpa [Value.ownBlock] using hg);rcases hat6' with h|h;exact(hoT.out g2 h).2 e;have:=hbs g2 e;omega⟩);have y7' : wt.heap.size+1<=(w6.setCell ⟨B1+1,0,none⟩ (.slice (some ⟨g2,0,none⟩) (vn+1) cap2)).heap.size:=(by rw[<- hzA];exact y7);go_roundw)
       case rel=>exact⟨i+1,_,_,rfl,by omega,by go_num,kH (by rw[hst2.out];exact y9),y1,y2,kH (by rw[hst1.out];exact y3),hsT,kH hoN,y4,y5,y6,by omega⟩
       case measure=>simp[intOf];omega
      ·have dy:(y != va)=true:=by simpa using hy
       have hne1:∀k,k<j+1->ys[k]?≠some va:=fun k hk=>by
        rcases Nat.lt_or_ge k j with h|h
        ·exact hne.out k h
        ·obtain rfl:k=j:=by omega
         rw[P4.out];exact fun e=>hy (Option.some.inj e)
       replace hne1:=kH hne1;replace hy:=kH hy
       go_upto_region 8 with fail
       (refine wp_region_ext_lit (by kernel_rfl) (by kernel_rfl) ?_;(repeat (any_goals (first|go_big_quiet_step (fail)|quiet_step (fail)|(refine wpQuiet_step (fun K hK=>?_);go_simp;split<;>(refine hK _ ?_;clear hK K)))));all_goals (refine wpQuiet_nil ?_;rintro wq ⟨⟨_,hbq⟩,rfl⟩))
       go_wp2_with fail
       go_roundw
       case rel=>exact⟨j+1,by omega,by go_num,hne1,kH (hbj.out.trans (hbq.mono hzj))⟩
       case measure=>simp[intOf];omega
     ·obtain rfl:j=sn:=by omega
      have hnew:va ∉ ys:=fun h=>by
       obtain⟨k,hk⟩:=List.getElem?_of_mem h
       exact hne.out k (by have:=(List.getElem?_eq_some_iff.1 hk).1;have:=hsn.out;omega) hk
      replace hnew:=kH hnew
      go_upto_region 8 with fail
      (refine wp_region_ext_lit (by kernel_rfl) (by kernel_rfl) ?_;(repeat (any_goals (first|go_big_quiet_step (fail)|quiet_step (fail)|(refine wpQuiet_step (fun K hK=>?_);go_simp;split<;>(refine hK _ ?_;clear hK K)))));all_goals (refine wpQuiet_nil ?_;rintro wq ⟨⟨_,hbq⟩,rfl⟩))
      replace X3:=X3.below hbq;replace X3W:=X3W.below hbq;replace O3:=O3.below hbq;replace O3W:=O3W.below hbq;replace T3:=kH (T3.out.below hbq);replace S3:=kH (S3.out.below hbq);replace R3:=R3.below hbq;replace R3W:=R3W.below hbq;replace hw3:=hw3.trans (hbq.mono hw3.size)
      have hzq:=hbq.size
      have hownS:=S3.out.1
      rw[<- hsn.out]at hownS
      have hbsS:=S3.out.base
      have hbvT:=T3.out.base
      replace hownS:=kH hownS;replace hbsS:=kH hbsS;replace hbvT:=kH hbvT
      clear x3_0 x3_1 x3_2 x3f_0 x3f_1 x3f_2 hsX3
      have x3f_0:=X3W.frz 0 (by omega);have x3f_1:=X3W.frz 1 (by omega);have x3f_2:=X3W.frz 2 (by omega);obtain⟨x3_0,x3_1,x3_2⟩:=X3.box3;have hsX3:=bLt x3_0
      go_upto_region 12 with((at_builtin;refine wpList_append_lies _ rfl _ _ _ rfl (B1) 3 iJ _ 1 8 Tryz.underlying91 IJ.out IJ0.out IJ1.out IJ2.out rfl (by omega) (.slice sa1 j sc1) (j) (rowsOf intRow ys) rfl (own_below hownS.out (by go_grown)) ⟨wq.heap.size,0,none⟩ 1 1 [.int .i64 va] rfl rfl (World.news_of_block (cs:=#[.int .i64 va]) (t:=3) (fr:=(0,0)) (heap_alloc_new' _ _ _ (by simp))) (by intro u hu;simp at hu;repeat' first|(subst hu;rfl)|rcases hu with hu|hu) (by omega) (by unfold maxLen;omega) (by omega) (by simp;omega) _ rfl ?_;intro g3 cap3 w5 hown5 hgrow5 hat5 hlt5))
      have hbI:Below wq.heap.size wq (wq.alloc (.cells #[.int .i64 va] 3)):=by go_grown
      have k5:=kept_of hgrow5 (w:=wq) hbI
      have hz5:=hgrow5.size
      have hzI:(wq.alloc (.cells #[.int .i64 va] 3)).heap.size=wq.heap.size+1:=by simp
      have S5:=ownI_push hsn.out S3.out.2 hwf.out.1 hown5
      have X5:=X3.kept k5 (fun e=>hsx.out xb e.symm rfl)
      have X5W:=X3W.kept k5 (fun e=>hsx.out xb e.symm rfl)
      have O5:=O3.kept k5 (fun e=>hsO.out _ e.symm rfl)
      have O5W:=O3W.kept k5 (fun e=>hsO.out _ e.symm rfl)
      have T5:=T3.out.kept k5 (fun g hg e=>(hoO.out g hg).2 e.symm)
      have R5:=R3.kept k5 (fun e=>by have:=hbsS.out _ e.symm;omega)
      have R5W:=R3W.kept k5 (fun e=>by have:=hbsS.out _ e.symm;omega)
      have hw5:Below w.heap.size w w5:=below_grown2 (wr:=wq) (base:=w.heap.size) hgrow5 hbI hw3 hw3.size (own_lo hownS.out (by omega))
      have hg3:g3≠B1+1/\g3≠xb/\∀g,(Value.slice va1 vn vc1).ownBlock=some g->g3≠g:=by
       rcases hat5 with h|h
       ·exact⟨hsO.out g3 h,hsx.out g3 h,fun g hg e=>(hoO.out g hg).2 (by rw[<- e];exact h)⟩
       ·exact⟨by omega,by omega,fun g hg e=>by have:=hbvT.out g hg;omega⟩
      obtain⟨svT,hsv⟩ : ∃q,q=Value.slice (some ⟨g3,0,none⟩) (j+1) cap3:=⟨_,rfl⟩
      have hsown:∀g,svT.ownBlock=some g->g=g3:=fun g hg=>by rw[hsv]at hg;simpa [Value.ownBlock] using hg.symm
      rw[<- hsv]at S5 ⊢
      have hsT:Hid (∀g,svT.ownBlock=some g->g≠B1+1):=kH (fun g hg=>by rw[hsown g hg];exact hg3.1)
      have hoT:Hid (∀g,(Value.slice va1 vn vc1).ownBlock=some g->g≠B1+1/\svT.ownBlock≠some g):=kH (fun g hg=>⟨(hoO.out g hg).1,fun e=>hg3.2.2 g hg (hsown g e).symm⟩)
      have hsxT:∀g,svT.ownBlock=some g->g≠xb:=fun g hg=>by rw[hsown g hg];exact hg3.2.1
      replace T5:=kH T5;replace S5:=kH S5;replace hsxT:=kH hsxT;replace hsv:=kH hsv
      clear hown5 hgrow5 hat5 hlt5 k5 X3 X3W O3 O3W T3 S3 R3 R3W hw3 x3_0 x3_1 x3_2 x3f_0 x3f_1 x3f_2 hsX3 hownS hbsS hbI hg3 hsown hoO hsO
      have x5f_0:=X5W.frz 0 (by omega);have x5f_1:=X5W.frz 1 (by omega);have x5f_2:=X5W.frz 2 (by omega);obtain⟨x5_0,x5_1,x5_2⟩:=X5.box3;have hsX5:=bLt x5_0
      go_upto_region 13 with fail
      obtain⟨wt,hwt⟩ : ∃W,W=w5.setCell ⟨xb,0,none⟩ (.int .i64 (j:Int)):=⟨_,rfl⟩
      rw[<- hwt]
      have Kt:Kept (fun q=>q=xb) w5 wt:=by rw[hwt];exact(Kept.refl (fun q=>q=xb) w5).set (p:=⟨xb,0,none⟩) rfl _
      have XT:RowAt wt xb 0 [.int .i64 (j:Int),.string nm,.int .i64 ar]:=by rw[hwt];exact X5.putAt (j:=0) (by simp) _
      have hzt:wt.heap.size=w5.heap.size:=by rw[hwt];simp
      have hwT:Below w.heap.size w wt:=by rw[hwt];exact hw5.setCell (p:=⟨xb,0,none⟩) (by dsimp only;omega) _
      have OTr:=O5.kept Kt (by omega)
      have OTW:=O5W.kept Kt (by omega)
      have TT:=kH (T5.out.kept Kt (fun g hg=>hvx.out g hg))
      have SS:=kH (S5.out.kept Kt (fun g hg=>hsxT.out g hg))
      have RT:=R5.kept Kt (by omega)
      have RTW:=R5W.kept Kt (by omega)
      have hcs:seenX ys ⟨va,nm,ar⟩=ys ++ [va]:=by unfold seenX;rw[if_pos ⟨hq.out,hnew.out⟩]
      have hcx:canX (ys ++ [va]) ⟨va,nm,ar⟩=⟨(j:Int),nm,ar⟩:=by unfold canX;rw[if_pos hq.out,idxOf_new hnew.out,<- hsn.out]
      have hst1':=hst1.out;have hst2':=hst2.out
      rw[hcs,hcx]at hst1'
      rw[hcs]at hst2'
      have hy0:Hid (⟨(j:Int),nm,ar⟩ : GTyItem).wf:=kH ⟨⟨by dsimp only;omega,by dsimp only;omega⟩,hwf.out.2.1,hwf.out.2.2⟩
      obtain⟨c0,hc0⟩ : ∃q,q=(j:Int):=⟨_,rfl⟩
      rw[<- hc0]at XT hst1' hy0 ⊢
      clear hst1 hst2
      have hst1:=kH hst1';have hst2:=kH hst2'
      replace hc0:=kH hc0
      have hztl:xb<wt.heap.size:=by omega
      clear hst1' hst2' hcs hcx hwt Kt X5 X5W O5 O5W T5 S5 R5 R5W hw5 x5_0 x5_1 x5_2 x5f_0 x5f_1 x5f_2 hsX5 hzt
      obtain⟨xt_0,xt_1,xt_2⟩:=XT.box3;have hsXT:=bLt xt_0;have otr_0:=OTr.box1;have hsOTr:=bLt otr_0
      have otf:=OTW.frz 0 (by omega)
      (have hownT:=TT.out.1;rw[<- hvn.out]at hownT;replace hownT:=kH hownT;go_wp2_with (((at_builtin;refine wpList_append_lies _ rfl _ _ _ rfl (B1) 107 iI _ 3 32 Tryz.underlying31 II.out II0.out II1.out II2.out rfl (by omega) (.slice va1 vn vc1) (vn) (rowsOf tyRow Pi) rfl (own_below hownT.out (by go_grown)) ⟨wt.heap.size,0,none⟩ 1 1 [.int .i64 c0,.string nm,.int .i64 ar] rfl rfl (World.news_of_block (cs:=#[.int .i64 c0,.string nm,.int .i64 ar]) (t:=107) (fr:=(0,0)) (heap_alloc_new' _ _ _ (by simp))) (by intro u hu;simp at hu;repeat' first|(subst hu;rfl)|rcases hu with hu|hu) (by omega) (by unfold maxLen;omega) (by omega) (by simp;omega) _ rfl ?_;intro g2 cap2 w6 hown6 hgrow6 hat6 hlt6);have k6:=kept_of hgrow6 (w:=wt) (by go_grown);have O6:=OTr.kept k6 (fun e=>(hoT.out _ e.symm).1 rfl);have O6W:=OTW.kept k6 (fun e=>(hoT.out _ e.symm).1 rfl);have o6_0:=O6.box1;have of6:=O6W.frz 0 (by omega);have hsO6:=bLt o6_0;replace k6:=kH k6));have hbA:Below wt.heap.size wt (wt.alloc (.cells #[.int .i64 c0,.string nm,.int .i64 ar] 107)):=(by go_grown);have hzA:(wt.alloc (.cells #[.int .i64 c0,.string nm,.int .i64 ar] 107)).heap.size=wt.heap.size+1:=(by simp);have hbv:=TT.out.base;have hbs:=SS.out.base;have hat6' : (Value.slice va1 vn vc1).ownBlock=some g2\/(wt.alloc (.cells #[.int .i64 c0,.string nm,.int .i64 ar] 107)).heap.size<=g2:=(by rcases hat6 with h|h;exact .inl h;exact .inr (by omega));obtain⟨y1,y2,y3,y4,y5,y6,y7,y8⟩:=app_step2 (w:=w) (B1:=B1) (Mi:=[⟨c0,nm,ar⟩]) (mn:=1) hvn.out rfl (OTr.below hbA) (OTW.below hbA) (TT.out.below hbA) (RT.below hbA) (RTW.below hbA) (hwT.trans (hbA.mono hwT.size)) (fun g hg=>⟨(hoT.out g hg).1,by have:=hbv g hg;omega⟩) (by omega) (by omega) (by omega) (by omega) (by omega) (fun y hy=>by simp only[List.mem_singleton]at hy;subst hy;exact hy0.out) (by rw[rowsOf_one];rfl) hown6 hgrow6 hat6';have KS:Kept (fun k=>k=B1+1\/some k=(Value.slice va1 vn vc1).ownBlock) (wt.alloc (.cells #[.int .i64 c0,.string nm,.int .i64 ar] 107)) (w6.setCell ⟨B1+1,0,none⟩ (.slice (some ⟨g2,0,none⟩) (vn+1) cap2)):=Kept.set (p:=⟨B1+1,0,none⟩) (fun k h1 h2=>(kept_of hgrow6 (Below.refl _ _)) k h1 (fun e=>h2 (.inr e))) (.inl rfl) _;have y9:=(SS.out.below hbA).kept KS (fun g hg e=>by rcases e with e|e;exact hsT.out g hg e;exact(hoT.out g e.symm).2 hg);have hoN:∀g,(Value.slice (some ⟨g2,0,none⟩) (vn+1) cap2).ownBlock=some g->g≠B1+1/\svT.ownBlock≠some g:=(fun g hg=>⟨(y8 g hg).1,fun e=>by(obtain rfl:g2=g:=by simpa [Value.ownBlock] using hg);rcases hat6' with h|h;exact(hoT.out g2 h).2 e;have:=hbs g2 e;omega⟩);have y7' : wt.heap.size+1<=(w6.setCell ⟨B1+1,0,none⟩ (.slice (some ⟨g2,0,none⟩) (vn+1) cap2)).heap.size:=(by rw[<- hzA];exact y7);go_roundw)
      case rel=>exact⟨i+1,_,_,rfl,by omega,by go_num,kH (by rw[hst2.out];exact y9),y1,y2,kH (by rw[hst1.out];exact y3),hsT,kH hoN,y4,y5,y6,by omega⟩
      case measure=>simp[intOf];omega
  ·obtain rfl:i=n:=by omega
   have hTn:=OT.out
   rw[List.take_of_length_le (by have:=hn.out;omega)]at hTn
   obtain⟨oa,oc,hov⟩:=hTn.form
   obtain⟨on,hon⟩ : ∃y,y=(canL l).length:=⟨_,rfl⟩
   rw[<- hon]at hov
   subst hov
   replace hTn:=kH hTn;replace hon:=kH hon
   clear OT
   have o_0:=O.box1;have hsO:=bLt o_0;have rf_0:=RW.frz 0 (by omega);have r_0:=R.box1;have hsR:=bLt r_0
   go_wp2_with fail
   refine bodyPost_ret (ret_ty (a:=2) Tryz.results23 rfl (R.putAt (j:=0) (by simp) (.slice oa on oc))) rfl ?_
   exact hpost.out _ _ B1 (hTn.out.kept ((Kept.refl (fun q=>q=w.heap.size+1) wr).set (p:=⟨w.heap.size+1,0,none⟩) rfl _) (fun g hg e=>by have:=hTn.out.base g hg;omega)) (by omega) (hw.setCell (p:=⟨w.heap.size+1,0,none⟩) (Nat.le_succ _) _)
theorem specDataTy_c (p:GProgram) (d:GData) (hs:ProgSm p) (hd:d.nodes.length<=1152921504606846976) (rp rd:List Value) (w:World) (hp:GProgram.R 0 w rp p) (hr:GData.R 0 w rd d) :
  Calls Tryz.prog 6 #[.agg rp.toArray,.agg rd.toArray] w (DtyPost (dtyP p d) w):=by
 have cC:=fun W (hW:Below w.heap.size w W)=>CheckTypes_c p hs rp W (GProgram.good.below hp hW)
 have cO:=fun W (hW:Below w.heap.size w W)=>specDataOk_c d hd rd 0 W (GData.good.below hr hW)
 have hds:dataOk d=true->DOkS d.nodes.length (treeOf d.nodes d.nodes.length 0):=fun h=>data_doksP hr h
 have hnT:dataOk d=true->nT (treeOf d.nodes d.nodes.length 0)<=600:=nT_data
 have hup:dataOk d=true->Up d.nodes/\0<d.nodes.length/\d.nodes.length<=600:=fun h=>dataOk_up h
 have hdm:∀W b,Below w.heap.size w W->w.heap.size<=b->DMem b rd d W:=fun W b h1 h2=>⟨w,hr,h2,h1⟩
 obtain⟨u0,u1,rfl,_,hT,hN⟩:=hp
 obtain⟨na,nc,rfl⟩:=hN.form
 obtain⟨ta,tc,rfl⟩:=hT.form
 have htys:chkOk p->TysOk p.types:=fun h=>tys_ok h.1 hT
 obtain⟨u,rfl,-,hs2⟩:=hr
 obtain⟨ua,uc,rfl⟩:=hs2.form
 have hmem:∀W b,Below w.heap.size w W->w.heap.size<=b->TyMem b (.slice ta p.types.length tc) p.types W:=fun W b h1 h2=>⟨w,hT,h2,h1⟩
 have hpost:∀W v l c,dtyP p d=(l,c)->OwnT w.heap.size W v l->Below w.heap.size w W->DtyPost (dtyP p d) w (.returned (.tuple #[.agg #[v],.int .i64 c])) W:=fun W v l c h h1 h2=>by rw[h];exact⟨v,rfl,h1,h2⟩
 have hno:=fun h=>dtyP_no (p:=p) (d:=d) h
 have hcd:=fun h h2=>dtyP_cd (p:=p) (d:=d) h h2
 have hbig:=fun h h2 h3=>dtyP_big (p:=p) (d:=d) h h2 h3
 have hgo:=fun h h2 h3=>dtyP_ok (p:=p) (d:=d) h h2 h3
 have hM0:dtyM p d=dataY p.types d.nodes.length (treeOf d.nodes d.nodes.length 0) is0:=rfl
 generalize DtyPost (dtyP p d) w=Q at *
 generalize dtyP p d=A at *
 generalize dtyM p d=M at *
 obtain⟨dq,hdq⟩ : ∃q,q=dataOk d:=⟨_,rfl⟩
 rw[<- hdq]at cO hds hnT hno hcd hbig hgo hup
 have cD:=fun(hT' : TysOk p.types) (hU:Up d.nodes) hL b P1=>l21Ty_all (b:=b) (tn:=p.types.length) (tc:=tc) (ta:=ta) (P1:=P1) hT' d hU hL d.nodes.length 0
 obtain⟨tn,htn⟩ : ∃q,q=p.types.length:=⟨_,rfl⟩
 obtain⟨nn,hnn⟩ : ∃q,q=p.nodes.length:=⟨_,rfl⟩
 obtain⟨dn,hdn⟩ : ∃q,q=d.nodes.length:=⟨_,rfl⟩
 rw[<- htn]at cC hmem cD ⊢
 rw[<- hnn]at cC ⊢
 rw[<- hdn]at cO hds hnT cD hM0 hup hdm ⊢
 show Calls Tryz.prog 6 #[.agg #[.slice ta tn tc,.slice na nn nc],.agg #[.slice ua dn uc]] w _
 replace cC:∀W,Below w.heap.size w W->Calls Tryz.prog 20 #[.agg #[.slice ta tn tc,.slice na nn nc]] W fun e w'=>CTPost (chkOk p) W e w':=cC
 replace cO:∀W,Below w.heap.size w W->Calls Tryz.prog 21 #[.agg #[.slice ua dn uc]] W fun e w'=>e=.returned (.bool dq)/\Below W.heap.size W w':=cO
 unfold CTPost at cC
 have hok:=fun(hT' : TysOk p.types) (h2:dq=true)=>dataY_ok hT' dn (treeOf d.nodes dn 0) is0 (hds h2) is0_good
 generalize treeOf d.nodes dn 0=tr at *
 generalize chkOk p=Cq at *
 generalize p.types=Ts at *
 replace cC:=kH cC;replace cO:=kH cO;replace hds:=kH hds;replace hnT:=kH hnT;replace htys:=kH htys;replace hmem:=kH hmem;replace hpost:=kH hpost;replace hno:=kH hno;replace hM0:=kH hM0;replace hdq:=kH hdq;replace cD:=kH cD;replace htn:=kH htn;replace hnn:=kH hnn;replace hdn:=kH hdn;replace hok:=kH hok;replace hup:=kH hup;replace hdm:=kH hdm;replace hcd:=kH hcd;replace hbig:=kH hbig;replace hgo:=kH hgo
 clear hs hd hT hN hs2
 go_enter Tryz.func6,Tryz.ntmps6
 go_upto_region 1 with fail
 have B:RowAt (w.alloc (.cells #[.slice ta tn tc,.slice na nn nc] 39)) (w.heap.size) 0 [.slice ta tn tc,.slice na nn nc]:=RowAt.box w #[.slice ta tn tc,.slice na nn nc] 39
 have B:=B.below (show Below (w.alloc (.cells #[.slice ta tn tc,.slice na nn nc] 39)).heap.size (w.alloc (.cells #[.slice ta tn tc,.slice na nn nc] 39)) ((w.alloc (.cells #[.slice ta tn tc,.slice na nn nc] 39)).alloc (.cells #[.slice ua dn uc] 43)) by go_grown)
 have D:RowAt ((w.alloc (.cells #[.slice ta tn tc,.slice na nn nc] 39)).alloc (.cells #[.slice ua dn uc] 43)) (w.heap.size+1) 0 [.slice ua dn uc]:=by have h:=RowAt.box (w.alloc (.cells #[.slice ta tn tc,.slice na nn nc] 39)) #[.slice ua dn uc] 43;simp only[World.size_alloc]at h;exact h
 have B:=B.below (show Below ((w.alloc (.cells #[.slice ta tn tc,.slice na nn nc] 39)).alloc (.cells #[.slice ua dn uc] 43)).heap.size ((w.alloc (.cells #[.slice ta tn tc,.slice na nn nc] 39)).alloc (.cells #[.slice ua dn uc] 43)) (((w.alloc (.cells #[.slice ta tn tc,.slice na nn nc] 39)).alloc (.cells #[.slice ua dn uc] 43)).alloc (.cells #[.slice none 0 0] 33)) by go_grown)
 have D:=D.below (show Below ((w.alloc (.cells #[.slice ta tn tc,.slice na nn nc] 39)).alloc (.cells #[.slice ua dn uc] 43)).heap.size ((w.alloc (.cells #[.slice ta tn tc,.slice na nn nc] 39)).alloc (.cells #[.slice ua dn uc] 43)) (((w.alloc (.cells #[.slice ta tn tc,.slice na nn nc] 39)).alloc (.cells #[.slice ua dn uc] 43)).alloc (.cells #[.slice none 0 0] 33)) by go_grown)
 have R:RowAt (((w.alloc (.cells #[.slice ta tn tc,.slice na nn nc] 39)).alloc (.cells #[.slice ua dn uc] 43)).alloc (.cells #[.slice none 0 0] 33)) (w.heap.size+1+1) 0 [.slice none 0 0]:=by have h:=RowAt.box ((w.alloc (.cells #[.slice ta tn tc,.slice na nn nc] 39)).alloc (.cells #[.slice ua dn uc] 43)) #[.slice none 0 0] 33;simp only[World.size_alloc]at h;exact h
 have RW:Wr (((w.alloc (.cells #[.slice ta tn tc,.slice na nn nc] 39)).alloc (.cells #[.slice ua dn uc] 43)).alloc (.cells #[.slice none 0 0] 33)) (w.heap.size+1+1) 0 1:=by have h:=Wr.box ((w.alloc (.cells #[.slice ta tn tc,.slice na nn nc] 39)).alloc (.cells #[.slice ua dn uc] 43)) #[.slice none 0 0] 33;simp only[World.size_alloc]at h;exact h
 have hw:Below w.heap.size w (((w.alloc (.cells #[.slice ta tn tc,.slice na nn nc] 39)).alloc (.cells #[.slice ua dn uc] 43)).alloc (.cells #[.slice none 0 0] 33)):=by go_grown
 generalize (((w.alloc (.cells #[.slice ta tn tc,.slice na nn nc] 39)).alloc (.cells #[.slice ua dn uc] 43)).alloc (.cells #[.slice none 0 0] 33))=w0 at *
 have hsR0:=World.block_lt_of_cell? _ _ (R 0 _ rfl)
 dsimp only at hsR0
 obtain⟨b_0,b_1⟩:=B.box2;have hsB:=bLt b_0;have d_0:=D.box1;have hsD:=bLt d_0
 go_upto_region 2 with(go_at_call 20;(with_reducible refine(cC.out _ hw).mono ?_);rintro e w1 ⟨⟨c,i,rfl,hcq⟩,hb⟩;have R1:=R.below hb;have R1W:=RW.below hb;have hw:=hw.trans (hb.mono hw.size);have B:=B.below hb;obtain⟨b_0,b_1⟩:=B.box2;have hsB:=bLt b_0;have D:=D.below hb;have d_0:=D.box1;have hsD:=bLt d_0;clear hb;replace hcq:=kH hcq)
 have hsR1:=World.block_lt_of_cell? _ _ (R1 0 _ rfl)
 dsimp only at hsR1
 clear R RW cC
 by_cases hc:c=0
 rotate_left
 ·have dc:(c != 0)=true:=by simpa using hc
  have hA:=hno.out (fun h=>hc (hcq.out.2 h.1))
  have hp:=fun W v=>hpost.out W v _ _ hA
  replace hp:=kH hp
  clear hno hcd hbig hgo hcq
  have r1f_0:=R1W.frz 0 (by omega);have r1_0:=R1.box1;have hsR1:=bLt r1_0
  go_wp2_with fail
  refine bodyPost_ret (ret_dty (a:=4) (i:=5) Tryz.results6 rfl rfl (R1.putAt (j:=0) (by simp) (.slice none 0 0))) rfl ?_
  exact hp.out _ _ OwnF.empty (hw.setCell (p:=⟨w.heap.size+1+1,0,none⟩) (by dsimp only;omega) _)
 have hC:Cq:=hcq.out.1 hc
 have dc:(c != 0)=false:=by rw[hc];rfl
 cases dq
 ·have hA:=hno.out (fun h=>by cases h.2)
  have hp:=fun W v=>hpost.out W v _ _ hA
  replace hp:=kH hp
  clear hno hcd hbig hgo hcq hds hnT hok hup
  go_wp2_with (go_at_call 21;(with_reducible refine(cO.out _ hw).mono ?_);rintro e w2 ⟨rfl,hb⟩;have R2:=R1.below hb;have R2W:=R1W.below hb;have hw:=hw.trans (hb.mono hw.size);have B:=B.below hb;obtain⟨b_0,b_1⟩:=B.box2;have hsB:=bLt b_0;have D:=D.below hb;have d_0:=D.box1;have hsD:=bLt d_0;clear hb;have r2f_0:=R2W.frz 0 (by omega);have r2_0:=R2.box1;have hsR2:=bLt r2_0)
  refine bodyPost_ret (ret_dty (a:=4) (i:=5) Tryz.results6 rfl rfl (R2.putAt (j:=0) (by simp) (.slice none 0 0))) rfl ?_
  exact hp.out _ _ OwnF.empty (hw.setCell (p:=⟨w.heap.size+1+1,0,none⟩) (by dsimp only;omega) _)
 ·have hCd:=fun h2=>hcd.out ⟨hC,rfl⟩ h2
  have hBg:=fun h2 h3=>hbig.out ⟨hC,rfl⟩ h2 h3
  have hGo:=fun h2 h3=>hgo.out ⟨hC,rfl⟩ h2 h3
  have hT':=htys.out hC
  have hok':=hok.out hT' rfl
  have hds':=hds.out rfl
  have hnT':=hnT.out rfl
  obtain⟨hU,hd0,hL⟩:=hup.out rfl
  have cD':=fun b P1=>cD.out hT' hU hL b P1
  replace hCd:=kH hCd;replace hBg:=kH hBg;replace hGo:=kH hGo;replace hok':=kH hok';replace hds':=kH hds';replace cD':=kH cD'
  clear hno hcd hbig hgo hds hnT hok htys cD hcq hup hU
  go_upto_region 4 with(go_at_call 21;(with_reducible refine(cO.out _ hw).mono ?_);rintro e w2 ⟨rfl,hb⟩;have R2:=R1.below hb;have R2W:=R1W.below hb;have hw:=hw.trans (hb.mono hw.size);have B:=B.below hb;obtain⟨b_0,b_1⟩:=B.box2;have hsB:=bLt b_0;have D:=D.below hb;have d_0:=D.box1;have hsD:=bLt d_0;clear hb)
  clear cO
  go_upto_region 5 with fail
  obtain⟨w3,hW3⟩ : ∃W,W=w2.alloc (.cells #[.slice ta tn tc,.slice na nn nc,.slice none 0 0,.int .i64 0,.int .i64 0,.int .i64 0] 61):=⟨_,rfl⟩
  rw[<- hW3]
  have hb3:Below w2.heap.size w2 w3:=by rw[hW3];go_grown
  have I3:RowAt w3 w2.heap.size 0 [.slice ta tn tc,.slice na nn nc,.slice none 0 0,.int .i64 0,.int .i64 0,.int .i64 0]:=by rw[hW3];exact RowAt.box w2 #[_,_,_,_,_,_] _
  have I3W:Wr w3 w2.heap.size 0 6:=by rw[hW3];exact Wr.box w2 #[_,_,_,_,_,_] _
  have hz3:w2.heap.size+1<=w3.heap.size:=by rw[hW3];simp
  have R3:=R2.below hb3
  have R3W:=R2W.below hb3
  have D3:=D.below hb3
  have hsR2:=World.block_lt_of_cell? _ _ (R2 0 _ rfl)
  dsimp only at hsR2
  have hw3:=hw.trans (hb3.mono hw.size)
  have hzw:=hw.size
  obtain⟨b,hbb⟩ : ∃q,q=w2.heap.size:=⟨_,rfl⟩
  rw[<- hbb]at I3 I3W hz3 hsR2 hzw ⊢
  have S3:SB b (.slice ta tn tc) (.slice na nn nc) w3 is0 (.slice none 0 0):=⟨I3,I3W,⟨_,_,_,rfl⟩,fun _=>Sl.nil⟩
  have M3:=hmem.out w3 b hw3 hzw
  have DM3:=hdm.out w3 b hw3 hzw
  have hblt:b<w3.heap.size:=by omega
  have cDa:Calls Tryz.prog 22 #[.pointer (some ⟨b,0,none⟩),.agg #[.slice ua dn uc],.int .i64 0] w3 (DtPost b (.slice ta tn tc) (.slice na nn nc) Ts dn tr is0 is0 w3):=cD'.out b (.slice na nn nc) hd0 (by omega) hds'.out is0 is0 (.slice none 0 0) _ w3 S3 M3 DM3 is0_good is0_good (ISeq.refl _) (by show 0+2*nT tr<=600000;omega)
  unfold DtPost at cDa
  rw[<- hM0.out]at cDa
  have hgM:=hok'.out.good
  have htyM:=hok'.out.ty
  rw[<- hM0.out]at hgM htyM
  replace hbb:=kH hbb;replace cDa:=kH cDa;replace M3:=kH M3;replace htyM:=kH htyM;replace hgM:=kH hgM
  clear hW3 hb3 b_0 b_1 hsB B R2 R2W hw hmem cD' hok' hds' hM0 I3 I3W DM3 hdm d_0 hsD D
  have d3_0:=D3.box1;have hsD3:=bLt d3_0
  go_upto_region 6 with(go_at_call 22;(with_reducible refine(cDa.out).mono ?_);rintro e w5 ⟨v5,s5,lv5,rfl,S5,F5,hg5,hq5,-,-,T5⟩;obtain⟨a5,n5,c5,rfl⟩:=T5.form)
  have hne : ¬ (w.heap.size+1+1=b):=by omega
  obtain⟨w6,hW6⟩ : ∃W,W=w5.alloc (.cells #[.slice a5 n5 c5] 33):=⟨_,rfl⟩
  rw[<- hW6]
  have hb6:Below w5.heap.size w5 w6:=by rw[hW6];go_grown
  have V6:RowAt w6 w5.heap.size 0 [.slice a5 n5 c5]:=by rw[hW6];exact RowAt.box w5 #[_] _
  have V6W:Wr w6 w5.heap.size 0 1:=by rw[hW6];exact Wr.box w5 #[_] _
  have R6:=(F5.row R3 hne).below hb6
  have R6W:=(R3W.kept F5.kept hne).below hb6
  have S6:=S5.below hb6
  have T6:=T5.below hb6
  have hzF:=F5.size
  have hw6:Below w.heap.size w w6:=(hw3.trans (F5.below.mono hzw)).trans (hb6.mono (by have:=hw3.size;omega))
  have hzw3:=hw3.size
  obtain⟨vb,hvb⟩ : ∃q,q=w5.heap.size:=⟨_,rfl⟩
  rw[<- hvb]at V6 V6W hzF ⊢
  have hz6:=hw6.size
  have hbv:b<vb:=by omega
  have hrv:w.heap.size+1+1<vb:=by omega
  replace hvb:=kH hvb;replace T6:=kH T6
  clear hW6 hb6 S5 T5 R3 R3W d3_0 hsD3 D3 F5
  obtain⟨⟨s_0,s_1,s_2,s_3,s_4,s_5⟩,-⟩:=S6.cells
  have hlt6:=S6.lt
  have v6f_0:=V6W.frz 0 (by omega);have v6_0:=V6.box1;have hsV6:=bLt v6_0;have r6f_0:=R6W.frz 0 (by omega);have r6_0:=R6.box1;have hsR6:=bLt r6_0
  by_cases hm:M.2.cd=0
  rotate_left
  ·have hcd5:=hq5.cd
   have d0:(s5.cd != 0)=true:=by rw[hcd5];simpa using hm
   have hp:=fun W v=>hpost.out W v _ _ (hCd.out hm)
   rw[<- hcd5]at hp
   have v_4:∀u,((w6.setCell ⟨w.heap.size+1+1,0,none⟩ u).drew).cell? ⟨b,4,none⟩=some (.int .i64 s5.cd):=fun u=>by
    show(w6.setCell ⟨w.heap.size+1+1,0,none⟩ u).cell? ⟨b,4,none⟩=_
    rw[World.cell?_setCell_other _ _ _ _ (by intro e;injection e with e1;omega)];exact s_4
   replace hp:=kH hp;replace v_4:=kH v_4
   clear hCd hBg hGo hq5 hcd5 hg5 hgM htyM
   go_upto_region 7 with fail
   go_region_held3 (fun w'=>w'.cell? ⟨b,4,none⟩=some (.int .i64 s5.cd))
    (first|exact s_4|exact v_4.out _|go_keep)
    (fail)
   all_goals go_wp2_with fail
   all_goals (refine bodyPost_ret (ret_dty (a:=4) (i:=5) Tryz.results6 rfl rfl (show RowAt ((w6.setCell ⟨w.heap.size+1+1,0,none⟩ (.slice none 0 0)).drew) (w.heap.size+1+1) 0 [.slice none 0 0] from R6.putAt (j:=0) (by simp) _)) rfl ?_)
   all_goals exact hp.out _ _ OwnF.empty (hw6.setCell (p:=⟨w.heap.size+1+1,0,none⟩) (by dsimp only;omega) _).drew
  ·obtain rfl:=hq5.eq hm
   have hA1:=hBg.out hm
   have hA2:=hGo.out hm
   have hN0:=(htyM.out hm).2
   obtain⟨g1,g2⟩:=hg5.sub hm
   have hts:=T6.out.good hm
   have htz:szY M.1<=3*nT tr:=by obtain⟨l,_,h2,h3⟩:=T6.out;rw[h3 hm,flatY_len]at h2;exact h2
   have hX:=sz_sub (σ:=M.2.sub) g1.sz M.1
   have hls:=S6.sl hm
   obtain⟨la,ln,lc,rfl⟩:=S6.form
   have cAp:∀W,Below w6.heap.size w6 W->Calls Tryz.prog 24 #[.agg #[.slice a5 n5 c5],.slice la ln lc] W (TyPost (flatY (subY M.2.sub M.1)) W):=fun W hW=>by
    rw[<- putL_flat _ _ hN0]
    exact l05Apply_c (flatY M.1) M.2.sub g1.keys (by rw[putL_flat _ _ hN0,flatY_len];omega) _ _ W ((hts.below GTyItem.good hW).mono GTyItem.good (Nat.zero_le _)) ((hls.below SubR.good hW).mono SubR.good (Nat.zero_le _))
   have cCa:=fun W v (hv:Sl GTyItem.R 3 0 W v (flatY (subY M.2.sub M.1)))=>l05Canon_c (flatY (subY M.2.sub M.1)) (by rw[flatY_len];omega) v W hv
   have hlc:(canL (flatY (subY M.2.sub M.1))).length=szY (subY M.2.sub M.1):=by rw[canL_len,flatY_len]
   generalize subY M.2.sub M.1=X at *
   unfold TyPost at cAp cCa
   rw[hm]at s_4
   have v_2:∀W u,Below w6.heap.size w6 W->(W.setCell ⟨vb,0,none⟩ u).cell? ⟨b,2,none⟩=some (.slice la ln lc):=fun W u hW=>by
    rw[World.cell?_setCell_other _ _ _ _ (by intro e;injection e with e1;omega)];exact cell_below hW s_2
   replace cAp:=kH cAp;replace cCa:=kH cCa;replace hlc:=kH hlc;replace v_2:=kH v_2;replace hA1:=kH hA1;replace hA2:=kH hA2;replace hm:=kH hm
   clear hCd hBg hGo hg5 hgM htyM hN0 g1 g2 hts hls hX htz T6 hq5
   go_upto_region 8 with fail
   go_region_law
    ((first
     |(go_simp;go_at_call 24;(with_reducible refine(cAp.out _ ((Below.refl _ w6).drew)).mono ?_);rintro e w7 ⟨v7,rfl,T7,hb7'⟩;have hb7:Below w6.heap.size w6 w7:=(Below.refl _ w6).drew.trans hb7';have u_2:=cell_below hb7 s_2;have T7s:=(T7.sl flatTyItem).mono GTyItem.good (Nat.zero_le _);have ve_0:=cell_below hb7 v6_0;replace T7s:=kH T7s)
     |(go_simp;go_at_call 23;(with_reducible refine(cCa.out _ _ T7s.out).mono ?_);rintro e w8 ⟨v8,rfl,T8,hb8'⟩;have hb8:Below w6.heap.size w6 w8:=hb7.trans (hb8'.mono hb7.size);have z_2:=cell_below hb8 s_2;obtain⟨a8,c8,rfl⟩:=T8.form;rw[hlc.out]at T8 ⊢;have V8:=V6.below hb8;have V8W:=V6W.below hb8;have v8_0:=V8.box1;have v8f:=V8W.frz 0 (by omega);have hsV8:=bLt v8_0)))
   all_goals
    have T8' : OwnT w.heap.size w8 (.slice a8 (szY X) c8) (canL (flatY X)):=T8.mono (by have:=hb7.size;omega)
    have hbs:=T8.base
    have hvl:∀g,(Value.slice a8 (szY X) c8).ownBlock=some g->vb<g:=fun g hg=>by have:=hbs g hg;have:=hb7.size;omega
    obtain⟨w9,hW9⟩ : ∃W,W=w8.setCell ⟨vb,0,none⟩ (.slice a8 (szY X) c8):=⟨_,rfl⟩
    rw[<- hW9]
    have V9:RowAt w9 vb 0 [.slice a8 (szY X) c8]:=by rw[hW9];exact V8.putAt (j:=0) (by simp) _
    have K9:Kept (fun q=>q=vb) w8 w9:=by rw[hW9];exact(Kept.refl (fun q=>q=vb) w8).set (p:=⟨vb,0,none⟩) rfl _
    have R9:=(R6.below hb8).kept K9 (show ¬ (w.heap.size+1+1=vb) by omega)
    have R9W:=(R6W.below hb8).kept K9 (show ¬ (w.heap.size+1+1=vb) by omega)
    have T9:=T8'.kept K9 (fun g hg e=>by have:=hvl g hg;omega)
    have hw9:Below w.heap.size w w9:=by rw[hW9];exact(hw6.trans (hb8.mono hz6)).setCell (p:=⟨vb,0,none⟩) (by dsimp only;omega) _
    generalize szY X=z at *
    replace T9:=kH T9;replace hvl:=kH hvl
    clear hW9 K9 T8 T8' hbs T7 T7s hb7 hb7' hb8 hb8' V8 V8W u_2 ve_0 z_2 v8_0 v8f hsV8 v6_0 v6f_0 r6_0 r6f_0 hsV6 hsR6 V6 V6W R6 R6W s_0 s_1 s_2 s_3 s_4 s_5 S6 cAp cCa
    have v9_0:=V9.box1;have hsV9:=bLt v9_0;have r9f_0:=R9W.frz 0 (by omega);have r9_0:=R9.box1;have hsR9:=bLt r9_0
    by_cases hb:200<z
    ·have d1:decide ((200:Int)<(z:Int))=true:=decide_eq_true (by omega)
     have hp:=fun W v=>hpost.out W v _ _ (hA1.out hb)
     replace hp:=kH hp
     go_wp2_with fail
     refine bodyPost_ret (ret_dty (a:=4) (i:=5) Tryz.results6 rfl rfl (R9.putAt (j:=0) (by simp) (.slice none 0 0))) rfl ?_
     exact hp.out _ _ OwnF.empty (hw9.setCell (p:=⟨w.heap.size+1+1,0,none⟩) (by dsimp only;omega) _)
    ·have d1:decide ((200:Int)<(z:Int))=false:=decide_eq_false (by omega)
     have hp:=fun W v=>hpost.out W v _ _ (hA2.out hb)
     replace hp:=kH hp
     go_wp2_with fail
     refine bodyPost_ret (ret_dty (a:=4) (i:=5) Tryz.results6 rfl rfl (R9.putAt (j:=0) (by simp) (.slice a8 z c8))) rfl ?_
     exact hp.out _ _ (T9.out.kept ((Kept.refl (fun q=>q=w.heap.size+1+1) w9).set (p:=⟨w.heap.size+1+1,0,none⟩) rfl _) (fun g hg e=>by have:=hvl.out g hg;omega)) (hw9.setCell (p:=⟨w.heap.size+1+1,0,none⟩) (by dsimp only;omega) _)
end Go.Proofs.YtkikkfjmggobpaaGreat
